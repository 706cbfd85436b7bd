/- A state, its moves, its number, and the states farthest from it. -/
import Derived.Test.YtahdlpadcbigaaaDoorAE
import Derived.Test.YtahdlpadcbigaaaDoorAx1
import Derived.Test.YtahdlpadcbigaaaDoorAx2
import Derived.Test.YtahdlpadcbigaaaDoorAx3
import Derived.Test.YtahdlpadcbigaaaDoorAx4
import Derived.Test.YtahdlpadcbigaaaDoorAx5
import Derived.Test.YtahdlpadcbigaaaDoorSteps
set_option linter.unusedVariables false
set_option linter.unusedSimpArgs false
namespace Go.Proofs.YtahdlpadcbigaaaDoor.Pure
open Go.RowKit Go.Proofs.YtahdlpadcbigaaaDoor.A Go.Proofs.YtahdlpadcbigaaaDoorW.PrintWords Go.Proofs.YtahdlpadcbigaaaDoorW.PrintLast Go.Proofs.YtahdlpadcbigaaaDoorW.PrintMore

/-! a state, its moves, its number, the states farthest from it -/
theorem pow20 {r : Nat} (h : r ≤ 20) : 2 ^ r ≤ 2 ^ 20 := Nat.pow_le_pow_right (by decide) h
/-- how far two numbers are apart -/
def dst (n m : Nat) : Nat := if n < m then m - n else n - m
theorem numI {bs : List Bool} {k : Nat} (h1 : 1 ≤ bs.length) (h2 : bs.length ≤ 20) (hk : 62 < k) : impl_NumberOfState.f k (sb bs) = some ((M.num bs : Int), true) := by
  unfold impl_NumberOfState.f
  rw [isState_sb h1 h2, Option.bind_some, if_pos rfl, number (by omega) hk]
  rfl
theorem fewI {a b : List Bool} {k : Nat} (h1 : 1 ≤ a.length) (h2 : a.length ≤ 20) (hb : b.length = a.length) (hk : 62 < k) : impl_FewestMoves.f k (sb a) (sb b) = some ((dst (M.num a) (M.num b) : Int), true) := by
  have na := num_small (bs := a) (by omega)
  have nb := num_small (bs := b) (by omega)
  unfold impl_FewestMoves.f impl_alike.f
  rw [isState_sb h1 h2, Option.bind_some, if_pos rfl, isState_sb (by omega) (by omega), Option.bind_some, if_pos rfl, sb_size, sb_size, hb, beq_self_eq_true, Option.bind_some, if_pos rfl, number (by omega) hk, Option.bind_some, number (by omega) hk, Option.bind_some]
  unfold impl_apart.f mx dst
  rw [w64 (x := (M.num a : Int) - (M.num b : Int)) (by omega) (by omega), w64 (x := (M.num b : Int) - (M.num a : Int)) (by omega) (by omega)]
  simp only [Option.bind_some, Option.some.injEq, Prod.mk.injEq, and_true]
  split <;> split <;> omega
/-- the state after a move, moved back -/
theorem can_flip {bs : List Bool} {j : Nat} (hb : bs ≠ []) (hc : M.canM bs j = true) : M.canM (M.flip bs j) j = true ∧ (M.num (M.flip bs j) = M.num bs + 1 ∨ (0 < M.num bs ∧ M.num (M.flip bs j) = M.num bs - 1)) := by
  have hs := M.st_num bs
  have hl := M.flip_length bs j
  rcases M.num_flip hb hc with ⟨h1, h2, h3⟩ | ⟨h1, h2, h3⟩
  · refine ⟨?_, .inl h3⟩
    have e := M.st_num (M.flip bs j)
    rw [hl, h3] at e
    rw [← e, h2]
    exact (M.can_up h1).2
  · refine ⟨?_, .inr ⟨h1, h3⟩⟩
    have e := M.st_num (M.flip bs j)
    rw [hl, h3] at e
    have hn := M.num_lt bs
    have := (M.can_up (r := bs.length) (n := M.num bs - 1) (by omega)).1
    rw [show M.num bs - 1 + 1 = M.num bs by omega] at this
    rw [← e, h2]
    exact this
/-- how many moves there are -/
theorem canL_count {bs : List Bool} (h1 : 1 ≤ bs.length) : (canL bs 0 bs.length)[0]? = some 0 ∧ 1 ≤ (canL bs 0 bs.length).length ∧ (canL bs 0 bs.length).length ≤ 2 ∧ ((canL bs 0 bs.length).length = 1 ↔ M.num bs = 0 ∨ M.num bs = 2 ^ bs.length - 1) := by
  obtain ⟨d, hd⟩ : ∃ d, bs.length = d + 1 := ⟨bs.length - 1, by omega⟩
  have hn := M.num_lt bs
  have hs := M.st_num bs
  have hp := Nat.two_pow_pos bs.length
  have e : canL bs 0 bs.length = 0 :: canL bs 1 d := by rw [hd, canL_succ, if_pos (M.can_zero bs)]; rfl
  have hodd : 2 ^ bs.length % 2 = 0 := by rw [hd, Nat.pow_succ]; omega
  have hl : (canL bs 1 d).length = ((List.range' 1 d).filter fun j => M.canM bs j).length := by unfold canL; rw [List.length_map]
  have key : ∀ k, 1 ≤ k → (M.canM bs k = true → (M.num bs + 1 < 2 ^ bs.length ∧ k = M.ctz (M.num bs + 1)) ∨ (0 < M.num bs ∧ k = M.ctz (M.num bs))) := by
    intro k _ hc
    rw [← hs] at hc
    rcases M.can_only h1 hn hc with h | h
    · exact .inl h
    · exact .inr h
  have hlen : (canL bs 1 d).length = if M.num bs = 0 ∨ M.num bs = 2 ^ bs.length - 1 then 0 else 1 := by
    rw [hl]
    split
    · next h =>
      rw [List.length_eq_zero_iff, List.filter_eq_nil_iff]
      intro k hk hc
      have hk1 := (List.mem_range'_1.1 hk).1
      rcases h with h | h
      · rcases key k hk1 hc with ⟨_, h3⟩ | ⟨h3, _⟩
        · rw [h, M.ctz_odd (by decide)] at h3; omega
        · omega
      · rcases key k hk1 hc with ⟨h3, _⟩ | ⟨_, h3⟩
        · omega
        · rw [h, M.ctz_odd (by omega)] at h3; omega
    · next h =>
      obtain ⟨j, hj1, hjl, hjc, hju⟩ : ∃ j, 1 ≤ j ∧ j < bs.length ∧ M.canM bs j = true ∧ ∀ k, 1 ≤ k → M.canM bs k = true → k = j := by
        by_cases q : M.num bs % 2 = 0
        · have hc := M.can_down (r := bs.length) (n := M.num bs) (by omega) hn
          rw [hs] at hc
          have hz := M.ctz_even (n := M.num bs) (by omega) q
          refine ⟨M.ctz (M.num bs), by omega, M.ctz_lt (by omega) hn, hc, fun k hk hkc => ?_⟩
          rcases key k hk hkc with ⟨_, h3⟩ | ⟨_, h3⟩
          · rw [M.ctz_odd (by omega)] at h3; omega
          · exact h3
        · have hc := (M.can_up (r := bs.length) (n := M.num bs) (by omega)).1
          rw [hs] at hc
          have hz := M.ctz_even (n := M.num bs + 1) (by omega) (by omega)
          refine ⟨M.ctz (M.num bs + 1), by omega, M.ctz_lt (by omega) (by omega), hc, fun k hk hkc => ?_⟩
          rcases key k hk hkc with ⟨_, h3⟩ | ⟨_, h3⟩
          · exact h3
          · rw [M.ctz_odd (by omega)] at h3; omega
      have e1 : ((List.range' 1 d).filter fun k => M.canM bs k) = (List.range' 1 d).filter fun k => k == j := by
        apply List.filter_congr
        intro k hk
        have hk1 := (List.mem_range'_1.1 hk).1
        rw [Bool.eq_iff_iff, beq_iff_eq]
        exact ⟨hju k hk1, fun h => by rw [h]; exact hjc⟩
      rw [e1, ← List.countP_eq_length_filter]
      have : List.count j (List.range' 1 d) = 1 := by rw [List.Nodup.count (List.nodup_range' 1), if_pos (List.mem_range'_1.2 ⟨hj1, by omega⟩)]
      exact this
  have h2 : (canL bs 0 bs.length).length = (canL bs 1 d).length + 1 := by rw [e]; rfl
  refine ⟨by rw [e]; rfl, by omega, ?_, ?_⟩
  · rw [h2, hlen]; split <;> omega
  · rw [h2, hlen]
    constructor
    · intro h
      by_cases q : M.num bs = 0 ∨ M.num bs = 2 ^ bs.length - 1
      · exact q
      · rw [if_neg q] at h; omega
    · intro h
      rw [if_pos h]
/-- what is told of a text -/
def FA (s : ByteArray) (mv : List Int) (num : Int) (far : List ByteArray) (most : Int) (ok : Bool) : Prop := (ok = true ∧ ∃ (bs : List Bool) (e : Nat), s = sb bs ∧ 1 ≤ bs.length ∧ bs.length ≤ 20 ∧ mv = canL bs 0 bs.length ∧ num = (M.num bs : Int) ∧ e < 2 ^ bs.length ∧ far = [sb (M.st bs.length e)] ∧ most = (dst (M.num bs) e : Int)) ∨ ok = false
theorem farBoth {a : List Bool} (h1 : 1 ≤ a.length) (h2 : a.length ≤ 20) : ∃ e, e < 2 ^ a.length ∧ ∀ k, 90 < k → impl_FarthestFrom.f k (sb a) = some ([sb (M.st a.length e)], (dst (M.num a) e : Int), true) ∧ spec_FarthestFrom.f k (sb a) = some ([sb (M.st a.length e)], (dst (M.num a) e : Int), true) := by
  have na := M.num_lt a
  have np : 2 ^ a.length ≤ 2 ^ 20 := pow20 h2
  have ne : 2 ^ a.length % 2 = 0 := by
    obtain ⟨m, hm⟩ : ∃ m, a.length = m + 1 := ⟨a.length - 1, by omega⟩
    rw [hm, Nat.pow_succ]; omega
  have e0 : wrap64 (((2 ^ a.length - 1 : Nat) : Int) - (M.num a : Int)) = ((2 ^ a.length - 1 - M.num a : Nat) : Int) := by
    rw [w64 (by omega) (by omega)]; omega
  have e1 : wrap64 (shl .i64 1 (a.length : Int) - 1) = ((2 ^ a.length - 1 : Nat) : Int) := by
    clear e0
    rw [shl_one (by omega), w64 (x := ((2 ^ a.length : Nat) : Int) - 1) (by omega) (by omega)]; omega
  have hz : ∀ k, 90 < k → spec_riState.f k (a.length : Int) 0 = some (sb (M.st a.length 0)) ∧ impl_state.f k (a.length : Int) 0 = some (sb (M.st a.length 0)) := fun k hk =>
    ⟨riState (n := 0) (by omega) (by omega) (by omega), state (n := 0) (by omega) (by omega) (by omega)⟩
  have ho : ∀ k, 90 < k → spec_riState.f k (a.length : Int) ((2 ^ a.length - 1 : Nat) : Int) = some (sb (M.st a.length (2 ^ a.length - 1))) ∧ impl_state.f k (a.length : Int) ((2 ^ a.length - 1 : Nat) : Int) = some (sb (M.st a.length (2 ^ a.length - 1))) := fun k hk =>
    ⟨riState (by omega) (by omega) (by omega), state (by omega) (by omega) (by omega)⟩
  have hg : (([] : List ByteArray).length < 8796093022208) := by decide
  by_cases q : 2 ^ a.length - 1 - M.num a < M.num a
  · refine ⟨0, by omega, fun k hk => ?_⟩
    have q1 : (M.num a : Int) > ((2 ^ a.length - 1 - M.num a : Nat) : Int) := by omega
    have q2 : ¬ ((2 ^ a.length - 1 - M.num a : Nat) : Int) = (M.num a : Int) := by omega
    have m1 : spec_l1Most.f (M.num a : Int) ((2 ^ a.length - 1 - M.num a : Nat) : Int) = some (M.num a : Int) := by unfold spec_l1Most.f; rw [if_pos q1]
    have ed : dst (M.num a) 0 = M.num a := by unfold dst; rw [if_neg (by omega)]; rfl
    unfold spec_FarthestFrom.f impl_FarthestFrom.f
    rw [riGood_sb h1 h2 (by omega), isState_sb h1 h2, riNumber (by omega) (by omega), number (by omega) (by omega), ed]
    simp only [Option.bind_some, if_true, sb_size, e1, e0, m1, (hz k hk).1, (hz k hk).2, hg, q1, q2, if_false]
    simp
  · refine ⟨2 ^ a.length - 1, by omega, fun k hk => ?_⟩
    have q1 : ¬ (M.num a : Int) > ((2 ^ a.length - 1 - M.num a : Nat) : Int) := by omega
    have q2 : ¬ (M.num a : Int) = ((2 ^ a.length - 1 - M.num a : Nat) : Int) := by omega
    have m1 : spec_l1Most.f (M.num a : Int) ((2 ^ a.length - 1 - M.num a : Nat) : Int) = some ((2 ^ a.length - 1 - M.num a : Nat) : Int) := by unfold spec_l1Most.f; rw [if_neg q1]
    have ed : dst (M.num a) (2 ^ a.length - 1) = 2 ^ a.length - 1 - M.num a := by unfold dst; split <;> omega
    unfold spec_FarthestFrom.f impl_FarthestFrom.f
    rw [riGood_sb h1 h2 (by omega), isState_sb h1 h2, riNumber (by omega) (by omega), number (by omega) (by omega), ed]
    simp only [Option.bind_some, if_true, sb_size, e1, e0, m1, q2, if_false, (ho k hk).1, (ho k hk).2, hg, q1]
    simp
theorem countBoth {a : List Bool} (h1 : 1 ≤ a.length) (h2 : a.length ≤ 20) : ∃ n : Int, ∀ k, 90 < k → impl_CountOn.f (sb a) = some (n, true) ∧ spec_CountOn.f k (sb a) = some (n, true) := by
  refine ⟨(((a.map sg).count 49 : Nat) : Int), fun k hk => ?_⟩
  unfold spec_CountOn.f impl_CountOn.f
  rw [riGood_sb h1 h2 (by omega), isState_sb h1 h2]
  have e1 : spec_riOn.f k (sb a) = some (((a.map sg).count 49 : Nat) : Int) := riOn (by simp; omega) (by simp; omega)
  have e2 : strings_Count.f (sb a) (⟨#[49]⟩ : ByteArray) = some (((a.map sg).count 49 : Nat) : Int) := by
    unfold strings_Count.f
    have hc : ∀ l : List UInt8, Lib.countByte l 49 = l.count 49 := fun l => by
      first | rfl | (induction l with
      | nil => rfl
      | cons x l ih => simp [Lib.countByte, List.count_cons, ih]) | skip
    rw [if_pos (show (⟨#[49]⟩ : ByteArray).size = 1 from rfl), sb, tx_data]
    exact congrArg (fun n : Nat => some (n : Int)) (hc _)
  rw [e1, e2]
  exact ⟨rfl, rfl⟩
theorem stateAll (s : ByteArray) (hs : s.size ≤ 140737488351232) : ∃ (mv : List Int) (num cnt : Int) (far : List ByteArray) (most : Int) (ok : Bool), FA s mv num far most ok ∧ mv.length ≤ 100 ∧ far.length ≤ 100 ∧ ∀ k, 200 < k →
    impl_MovesOf.f k s = some (mv, ok) ∧ spec_MovesOf.f k s = some (mv, ok) ∧ impl_NumberOfState.f k s = some (num, ok) ∧ spec_NumberOfState.f k s = some (num, ok) ∧ impl_CountOn.f s = some (cnt, ok) ∧ spec_CountOn.f k s = some (cnt, ok) ∧
    impl_FarthestFrom.f k s = some (far, most, ok) ∧ spec_FarthestFrom.f k s = some (far, most, ok) ∧ impl_IsState.f s = some ok ∧ spec_IsState.f k s = some ok := by
  rcases stateCases s with ⟨a, rfl, h1, h2⟩ | ⟨l, rfl, hl⟩
  · obtain ⟨e, he, hf⟩ := farBoth h1 h2
    obtain ⟨n, hn⟩ := countBoth h1 h2
    refine ⟨canL a 0 a.length, (M.num a : Int), n, _, _, true, .inl ⟨rfl, a, e, rfl, h1, h2, rfl, rfl, he, rfl, rfl⟩, Nat.le_trans (canL_length _ _ _) (by omega), by simp, fun k hk => ⟨?_, ?_, numI h1 h2 (by omega), ?_, (hn k (by omega)).1, (hn k (by omega)).2, (hf k (by omega)).1, (hf k (by omega)).2, isState_sb h1 h2, ?_⟩⟩
    · unfold impl_MovesOf.f
      rw [isState_sb h1 h2, Option.bind_some, if_pos rfl, movesOf (by omega) (by omega)]; rfl
    · unfold spec_MovesOf.f
      rw [riGood_sb h1 h2 (by omega), Option.bind_some, if_pos rfl, riMoves (by omega) (by omega)]; rfl
    · unfold spec_NumberOfState.f
      rw [riGood_sb h1 h2 (by omega), Option.bind_some, if_pos rfl, riNumber (by omega) (by omega)]; rfl
    · unfold spec_IsState.f
      rw [riGood_sb h1 h2 (by omega)]; rfl
  · rw [tx_size] at hs
    refine ⟨[], 0, 0, [], 0, false, .inr rfl, by simp, by simp, fun k hk => ?_⟩
    unfold impl_MovesOf.f spec_MovesOf.f impl_NumberOfState.f spec_NumberOfState.f impl_CountOn.f spec_CountOn.f impl_FarthestFrom.f spec_FarthestFrom.f spec_IsState.f
    rw [riGood (by omega), isState hs, hl]
    exact ⟨rfl, rfl, rfl, rfl, rfl, rfl, rfl, rfl, rfl, rfl⟩
theorem moveI_yes {bs : List Bool} {a : Int} (h1 : 1 ≤ bs.length) (h2 : bs.length ≤ 20) (hc : canI bs a = true) : ∃ j : Nat, a = (j : Int) ∧ j < bs.length ∧ impl_MoveRing.f (sb bs) a = some (sb (M.flip bs j), true) := by
  obtain ⟨j, rfl, hj⟩ := canI_lt h1 hc
  refine ⟨j, rfl, hj, ?_⟩
  unfold impl_MoveRing.f
  rw [isState_sb h1 h2, Option.bind_some, if_pos rfl, canMove (by omega), hc, Option.bind_some, if_pos rfl, turned (by omega) hj]
  rfl
theorem moveI_no {bs : List Bool} {a : Int} (h1 : 1 ≤ bs.length) (h2 : bs.length ≤ 20) (hc : canI bs a = false) : impl_MoveRing.f (sb bs) a = some (⟨#[]⟩, false) := by
  unfold impl_MoveRing.f
  rw [isState_sb h1 h2, Option.bind_some, if_pos rfl, canMove (by omega), hc]
  rfl
theorem moveBoth (s : ByteArray) (a : Int) (hs : s.size ≤ 140737488351232) : ∃ (t : ByteArray) (b : Bool), ∀ k, 100 < k → impl_MoveRing.f s a = some (t, b) ∧ spec_MoveRing.f k s a = some (t, b) := by
  rcases stateCases s with ⟨bs, rfl, h1, h2⟩ | ⟨l, rfl, hl⟩
  · cases hc : canI bs a with
    | true =>
      obtain ⟨j, rfl, hj, e⟩ := moveI_yes h1 h2 hc
      refine ⟨_, true, fun k hk => ⟨e, ?_⟩⟩
      unfold spec_MoveRing.f
      rw [riGood_sb h1 h2 (by omega), Option.bind_some, if_pos rfl, riCan (by omega) (by omega), hc, Option.bind_some, if_pos rfl, riMove (by omega) hj]
      rfl
    | false =>
      refine ⟨⟨#[]⟩, false, fun k hk => ⟨moveI_no h1 h2 hc, ?_⟩⟩
      unfold spec_MoveRing.f
      rw [riGood_sb h1 h2 (by omega), Option.bind_some, if_pos rfl, riCan (by omega) (by omega), hc]
      rfl
  · rw [tx_size] at hs
    refine ⟨⟨#[]⟩, false, fun k hk => ?_⟩
    unfold impl_MoveRing.f spec_MoveRing.f
    rw [riGood (by omega), isState hs, hl]
    exact ⟨rfl, rfl⟩
/-- a state and a list of moves -/
def PL (s : ByteArray) (l : List Int) (t : ByteArray) (seven : Bool) (p : Int) (nine : Bool) : Prop :=
  (seven = true ∧ nine = false ∧ ∃ bs b : List Bool, s = sb bs ∧ 1 ≤ bs.length ∧ bs.length ≤ 20 ∧ l.length ≤ 2000 ∧ playB bs l 0 = (b, none) ∧ t = sb b) ∨
  (seven = false ∧ nine = true ∧ ∃ (bs b : List Bool) (j : Nat), s = sb bs ∧ 1 ≤ bs.length ∧ bs.length ≤ 20 ∧ l.length ≤ 2000 ∧ playB bs l 0 = (b, some j) ∧ p = (j : Int)) ∨ (seven = false ∧ nine = false)
theorem playI_yes {bs b : List Bool} {l : List Int} {k : Nat} (h1 : 1 ≤ bs.length) (h2 : bs.length ≤ 20) (hl : l.length ≤ 2000) (hp : playB bs l 0 = (b, none)) (hk : l.length + 1 < k) : impl_PlayMoves.f k (sb bs) l = some (sb b, true) := by
  obtain ⟨k, rfl⟩ : ∃ m, k = m + 1 := ⟨k - 1, by omega⟩
  unfold impl_PlayMoves.f
  rw [isState_sb h1 h2, Option.bind_some, if_pos rfl, decide_eq_false (by omega), impl_PlayMoves.j0, if_neg (by decide), play (by omega) h1 (by omega) (by omega), hp, Option.bind_some]
  simp only [pos]
  simp
theorem playAll (s : ByteArray) (l : List Int) (hs : s.size ≤ 140737488351232) (hl : l.length ≤ 2000000) : ∃ (t : ByteArray) (seven : Bool) (p : Int) (nine : Bool), PL s l t seven p nine ∧ ∀ k, l.length + 100 < k →
    impl_PlayMoves.f k s l = some (t, seven) ∧ spec_PlayMoves.f k s l = some (t, seven) ∧ impl_MoveThatFails.f k s l = some (p, nine) ∧ spec_MoveThatFails.f k s l = some (p, nine) := by
  rcases stateCases s with ⟨bs, rfl, h1, h2⟩ | ⟨m, rfl, hm⟩
  · by_cases q : l.length ≤ 2000
    · cases hp : playB bs l 0 with
      | mk b o =>
        have vP := fun k (hk : l.length + 45 < k) => riPlay (l := l) (bs := bs) (k := k) (by omega) h1 (by omega) hk
        have vQ := fun k (hk : l.length < k) => play (l := l) (bs := bs) (k := k) (by omega) h1 (by omega) hk
        rw [hp] at vP vQ
        cases o with
        | none =>
          refine ⟨sb b, true, 0, false, .inl ⟨rfl, rfl, bs, b, rfl, h1, h2, q, hp, rfl⟩, fun k hk => ?_⟩
          obtain ⟨k, rfl⟩ : ∃ m, k = m + 1 := ⟨k - 1, by omega⟩
          unfold impl_PlayMoves.f spec_PlayMoves.f impl_MoveThatFails.f spec_MoveThatFails.f
          rw [isState_sb h1 h2, riGood_sb h1 h2 (by omega), decide_eq_false (by omega)]
          simp only [Option.bind_some, if_true]
          rw [impl_PlayMoves.j0, spec_PlayMoves.j0, impl_MoveThatFails.j0, spec_MoveThatFails.j0, vP k (by omega), vQ k (by omega)]
          simp only [Option.bind_some, pos, Bool.false_eq_true, if_false]
          simp
        | some j =>
          have hj : j < l.length := by have := playB_lt l bs 0 j (by rw [hp]); omega
          refine ⟨⟨#[]⟩, false, (j : Int), true, .inr (.inl ⟨rfl, rfl, bs, b, j, rfl, h1, h2, q, hp, rfl⟩), fun k hk => ?_⟩
          obtain ⟨k, rfl⟩ : ∃ m, k = m + 1 := ⟨k - 1, by omega⟩
          unfold impl_PlayMoves.f spec_PlayMoves.f impl_MoveThatFails.f spec_MoveThatFails.f
          rw [isState_sb h1 h2, riGood_sb h1 h2 (by omega), decide_eq_false (by omega)]
          simp only [Option.bind_some, if_true]
          rw [impl_PlayMoves.j0, spec_PlayMoves.j0, impl_MoveThatFails.j0, spec_MoveThatFails.j0, vP k (by omega), vQ k (by omega)]
          simp only [Option.bind_some, pos, Bool.false_eq_true, if_false]
          have g1 : (j : Int) < (l.length : Int) := by omega
          have g2 : ¬ (j : Int) = (l.length : Int) := by omega
          have g3 : ¬ (j : Int) < 0 := by omega
          have g4 : (j : Int) ≥ 0 := by omega
          simp only [g1, g2, g3, g4, if_true, if_false]
          exact ⟨trivial, trivial, trivial, trivial⟩
    · refine ⟨⟨#[]⟩, false, 0, false, .inr (.inr ⟨rfl, rfl⟩), fun k hk => ?_⟩
      obtain ⟨k, rfl⟩ : ∃ m, k = m + 1 := ⟨k - 1, by omega⟩
      unfold impl_PlayMoves.f spec_PlayMoves.f impl_MoveThatFails.f spec_MoveThatFails.f
      rw [isState_sb h1 h2, riGood_sb h1 h2 (by omega), decide_eq_true (by omega)]
      exact ⟨rfl, rfl, rfl, rfl⟩
  · rw [tx_size] at hs
    refine ⟨⟨#[]⟩, false, 0, false, .inr (.inr ⟨rfl, rfl⟩), fun k hk => ?_⟩
    obtain ⟨k, rfl⟩ : ∃ m, k = m + 1 := ⟨k - 1, by omega⟩
    unfold impl_PlayMoves.f spec_PlayMoves.f impl_MoveThatFails.f spec_MoveThatFails.f
    rw [riGood (by omega), isState hs, hm]
    exact ⟨rfl, rfl, rfl, rfl⟩
/-- what is before the move that fails -/
theorem playB_fail (r : List Int) : ∀ (bs b : List Bool) (i j : Nat), playB bs r i = (b, some j) → ∃ d m, j = i + d ∧ playB bs (r.take d) i = (b, none) ∧ r[d]? = some m ∧ canI b m = false ∧ b.length = bs.length := by
  induction r with
  | nil => intro bs b i j h; cases h
  | cons m r ih =>
    intro bs b i j h
    rw [playB] at h
    by_cases q : canI bs m = true
    · rw [if_pos q] at h
      obtain ⟨d, m', e, h2, h3, h4, h5⟩ := ih _ _ _ _ h
      refine ⟨d + 1, m', by omega, ?_, h3, h4, by rw [h5, M.flip_length]⟩
      rw [List.take_succ_cons, playB, if_pos q, h2]
    · rw [if_neg q] at h
      cases h
      exact ⟨0, m, rfl, rfl, rfl, by simpa using q, rfl⟩
/-- the state with a number -/
def SN (a0 a1 : Int) (t : ByteArray) (b : Bool) : Prop := (b = true ∧ ∃ r n : Nat, a0 = r ∧ a1 = n ∧ 1 ≤ r ∧ r ≤ 20 ∧ n < 2 ^ r ∧ t = sb (M.st r n)) ∨ b = false
theorem stateNum (a0 a1 : Int) : ∃ (t : ByteArray) (b : Bool), SN a0 a1 t b ∧ ∀ k, 41 < k → impl_StateOfNumber.f k a0 a1 = some (t, b) ∧ spec_StateOfNumber.f k a0 a1 = some (t, b) := by
  by_cases h : 1 ≤ a0 ∧ a0 ≤ 20
  · obtain ⟨r, rfl⟩ := Int.eq_ofNat_of_zero_le (show 0 ≤ a0 by omega)
    have hp : 2 ^ r ≤ 2 ^ 20 := pow20 (by omega)
    have hpos := Nat.two_pow_pos r
    have e : wrap64 (shl .i64 1 (r : Int) - 1) = ((2 ^ r - 1 : Nat) : Int) := by
      rw [shl_one (by omega), w64 (by omega) (by omega)]; omega
    have h1 : (r : Int) ≥ 1 := h.1
    have h0 : (0 : Int) ≤ r := by omega
    by_cases hn : 0 ≤ a1 ∧ a1 ≤ ((2 ^ r - 1 : Nat) : Int)
    · obtain ⟨n, rfl⟩ := Int.eq_ofNat_of_zero_le hn.1
      have hn2 : n ≤ 2 ^ r - 1 := by omega
      have h3 : (0 : Int) ≤ n := by omega
      refine ⟨_, true, .inl ⟨rfl, r, n, rfl, rfl, by omega, by omega, by omega, rfl⟩, fun k hk => ?_⟩
      unfold spec_StateOfNumber.f impl_StateOfNumber.f spec_riRings.f spec_l1In.f impl_in.f
      rw [e, riState (by omega) (by omega) (by omega), state (by omega) (by omega) (by omega)]
      simp [h1, h.2, h0, h3, hn.2]
    · refine ⟨⟨#[]⟩, false, .inr rfl, fun k hk => ?_⟩
      unfold spec_StateOfNumber.f impl_StateOfNumber.f spec_riRings.f spec_l1In.f impl_in.f
      rw [e]
      by_cases h3 : a1 ≥ 0
      · have h4 : ¬ a1 ≤ ((2 ^ r - 1 : Nat) : Int) := fun z => hn ⟨h3, z⟩
        simp [h1, h.2, h0, h3, h4]
      · simp [h1, h.2, h0, h3]
  · refine ⟨⟨#[]⟩, false, .inr rfl, fun k hk => ?_⟩
    unfold spec_StateOfNumber.f impl_StateOfNumber.f spec_riRings.f spec_l1In.f impl_in.f
    by_cases h1 : a0 ≥ 1
    · have h2 : ¬ a0 ≤ 20 := fun z => h ⟨h1, z⟩
      simp [h1, h2]
    · simp [h1]

end Go.Proofs.YtahdlpadcbigaaaDoor.Pure
