/- What the printed moves of two rings at once give. -/
import Derived.Test.YtgmmplcijhibgaaDoorAx1
import Derived.Test.YtgmmplcijhibgaaDoorAx2
import Derived.Test.YtgmmplcijhibgaaDoorNext
set_option linter.unusedVariables false
set_option linter.unusedSimpArgs false
namespace Go.Proofs.YtgmmplcijhibgaaDoor.Pure
open Go.RowKit Go.Proofs.YtgmmplcijhibgaaDoor.A Go.Proofs.YtgmmplcijhibgaaDoorW.PrintWords Go.Proofs.YtgmmplcijhibgaaDoorW.PrintLast Go.Proofs.YtgmmplcijhibgaaDoorW.PrintMore

/-! two rings moved at once -/
theorem l1Has_l0 {l : List Int} (hl : l.length ≤ 2000000) (a : Int) (r : List Int) : ∀ (k i : Nat), l.drop i = r → r.length < k → spec_l1Has.l0 k a l (l.length : Int) (i : Int) = some (r.contains a) := by
  induction r with
  | nil =>
    intro k i hd hk
    obtain ⟨k, rfl⟩ : ∃ m, k = m + 1 := ⟨k - 1, by omega⟩
    have : l.length ≤ i := List.drop_eq_nil_iff.1 hd
    rw [spec_l1Has.l0, if_neg (by omega)]; rfl
  | cons b r ih =>
    intro k i hd hk
    obtain ⟨k, rfl⟩ : ∃ m, k = m + 1 := ⟨k - 1, by omega⟩
    obtain ⟨h2, h3, h4⟩ := getElem?_drop_cons hd
    simp only [List.length_cons] at hk
    rw [spec_l1Has.l0, if_pos (by omega), if_pos (by omega), if_pos (by omega), rd_nat h2, w64 (x := (i : Int) + 1) (by omega) (by omega), show ((i : Int) + 1) = ((i + 1 : Nat) : Int) by omega]
    by_cases q : b = a
    · rw [if_pos q]; simp [q]
    · rw [if_neg q, ih k (i + 1) h3 (by omega)]
      have q' : ¬ a = b := fun h => q h.symm
      simp [q']
theorem l1Has {l : List Int} {k : Nat} (hl : l.length ≤ 2000000) (a : Int) (hk : l.length < k) : spec_l1Has.f k l a = some (l.contains a) := l1Has_l0 hl a l k 0 (by simp) hk
theorem mem_canL {bs : List Bool} (h1 : 1 ≤ bs.length) (a : Int) : (canL bs 0 bs.length).contains a = canI bs a := by
  rw [Bool.eq_iff_iff, List.contains_eq_mem, decide_eq_true_eq]
  unfold canL
  simp only [List.mem_map, List.mem_filter, List.mem_range'_1]
  constructor
  · rintro ⟨j, ⟨⟨_, hj⟩, hc⟩, rfl⟩
    exact (canI_nat bs j).trans hc
  · intro h
    obtain ⟨j, rfl, hj⟩ := canI_lt h1 h
    exact ⟨j, ⟨⟨by omega, by omega⟩, by rw [← canI_nat]; exact h⟩, rfl⟩
def bothB (bs : List Bool) : Bool := bs.getD 0 false == bs.getD 1 false
def canP (bs : List Bool) (a : Int) : Bool := if a = -1 then bothB bs else canI bs a
def makeP (bs : List Bool) (a : Int) : List Bool := if a = -1 then M.flip (M.flip bs 0) 1 else M.flip bs a.toNat
def pairL (bs : List Bool) : List Int := (if bothB bs = true then [-1] else []) ++ canL bs 0 bs.length
theorem pairL_length (bs : List Bool) : (pairL bs).length ≤ bs.length + 1 := by
  have := canL_length bs 0 bs.length
  unfold pairL
  rw [List.length_append]
  split <;> simp <;> omega
theorem makeP_length (bs : List Bool) (a : Int) : (makeP bs a).length = bs.length := by
  unfold makeP; split <;> simp [M.flip_length]
theorem mem_pairL {bs : List Bool} (h1 : 1 ≤ bs.length) (a : Int) : (pairL bs).contains a = canP bs a := by
  have hm := mem_canL h1 a
  unfold pairL canP
  by_cases q : a = -1
  · subst q
    have hn : canI bs (-1) = false := by unfold canI; rw [if_pos (by omega)]
    rw [if_pos rfl]
    rw [hn] at hm
    have hm' : ¬ (-1 : Int) ∈ canL bs 0 bs.length := by simpa using hm
    cases bothB bs <;> simp [hm']
  · rw [if_neg q, ← hm]
    cases bothB bs <;> simp [q]
theorem bt01 {bs : List Bool} (h : 2 ≤ bs.length) : (bt (sb bs) 0 == bt (sb bs) 1) = bothB bs := by
  obtain ⟨b, hb, _⟩ := drop_cons' (bs := bs) (i := 0) (by omega)
  obtain ⟨c, hc, _⟩ := drop_cons' (bs := bs) (i := 1) (by omega)
  have e0 := bt_sb hb
  have e1 := bt_sb hc
  unfold bothB
  rw [getD_of hb, getD_of hc]
  rw [show ((0 : Nat) : Int) = 0 from rfl] at e0
  rw [show ((1 : Nat) : Int) = 1 from rfl] at e1
  rw [e0, e1]
  cases b <;> cases c <;> rfl
theorem twMoves {bs : List Bool} {k : Nat} (h1 : 2 ≤ bs.length) (h2 : bs.length ≤ 40) (hk : bs.length + 41 < k) : spec_twMoves.f k (sb bs) = some (pairL bs) := by
  unfold spec_twMoves.f pairL
  have hc := canL_length bs 0 bs.length
  rw [sb_size, if_pos (by omega), if_pos (by omega), riMoves h2 hk]
  have hb := bt01 h1
  by_cases q : bt (sb bs) 0 = bt (sb bs) 1
  · rw [if_pos q, if_pos (by simp)]
    rw [q] at hb
    rw [← hb]
    simp only [beq_self_eq_true, if_true, Option.bind_some, List.nil_append, List.length_singleton]
    rw [if_pos (by omega)]
  · rw [if_neg q]
    have : (bt (sb bs) 0 == bt (sb bs) 1) = false := beq_eq_false_iff_ne.2 q
    rw [← hb, this]
    simp only [Bool.false_eq_true, if_false, Option.bind_some, List.nil_append, List.length_nil, Nat.zero_add]
    rw [if_pos (by omega)]
theorem canPair {bs : List Bool} {a : Int} (h1 : 2 ≤ bs.length) (h2 : bs.length ≤ 40) : impl_canPair.f (sb bs) a = some (canP bs a) := by
  unfold impl_canPair.f canP
  by_cases q : a = -1
  · rw [if_pos q, if_pos q, sb_size, if_pos (by omega), if_pos (by omega), bt01 h1]
  · rw [if_neg q, if_neg q, canMove h2]; rfl
theorem pairMoves {bs : List Bool} {k : Nat} (h1 : 2 ≤ bs.length) (h2 : bs.length ≤ 40) (hk : bs.length < k) : impl_pairMoves.f k (sb bs) = some (pairL bs) := by
  unfold impl_pairMoves.f pairL
  have hc := canL_length bs 0 bs.length
  rw [canPair h1 h2, movesOf h2 hk]
  have hp : canP bs (-1) = bothB bs := by unfold canP; rw [if_pos rfl]
  rw [hp]
  cases bothB bs
  · simp only [Bool.false_eq_true, if_false, Option.bind_some, List.nil_append, List.length_nil, Nat.zero_add]
    rw [if_pos (by omega)]
  · simp only [if_true, Option.bind_some, List.nil_append, List.length_nil, List.length_singleton]
    rw [if_pos (by omega), if_pos (by omega)]
theorem twMake {bs : List Bool} {a : Int} (h1 : 2 ≤ bs.length) (h2 : bs.length ≤ 40) (h : canP bs a = true) : spec_twMake.f (sb bs) a = some (sb (makeP bs a)) ∧ impl_paired.f (sb bs) a = some (sb (makeP bs a)) := by
  unfold spec_twMake.f impl_paired.f makeP
  by_cases q : a = -1
  · have r1 := riMove (bs := bs) (j := 0) h2 (by omega)
    have t1 := turned (bs := bs) (j := 0) h2 (by omega)
    have r2 := riMove (bs := M.flip bs 0) (j := 1) (by rw [M.flip_length]; omega) (by rw [M.flip_length]; omega)
    have t2 := turned (bs := M.flip bs 0) (j := 1) (by rw [M.flip_length]; omega) (by rw [M.flip_length]; omega)
    rw [show ((0 : Nat) : Int) = 0 from rfl] at r1 t1
    rw [show ((1 : Nat) : Int) = 1 from rfl] at r2 t2
    rw [if_pos q, if_pos q, if_pos q, r1, t1]
    simp only [Option.bind_some]
    rw [r2, t2]; exact ⟨rfl, rfl⟩
  · rw [if_neg q, if_neg q, if_neg q]
    unfold canP at h
    rw [if_neg q] at h
    obtain ⟨j, rfl, hj⟩ := canI_lt (by omega) h
    rw [riMove h2 hj, turned h2 hj]; exact ⟨rfl, rfl⟩
theorem twGood {bs : List Bool} {k : Nat} (h1 : 1 ≤ bs.length) (h2 : bs.length ≤ 20) (hk : 20 < k) : spec_twGood.f k (sb bs) = some (decide (2 ≤ bs.length ∧ bs.length ≤ 12)) ∧ impl_isPaired.f (sb bs) = some (decide (2 ≤ bs.length ∧ bs.length ≤ 12)) := by
  unfold spec_twGood.f impl_isPaired.f spec_l1In.f impl_in.f
  rw [riGood_sb h1 h2 hk, isState_sb h1 h2, sb_size]
  by_cases q : 2 ≤ bs.length
  · have q1 : (bs.length : Int) ≥ 2 := by omega
    have e : ((bs.length : Int) ≤ 12) = (bs.length ≤ 12) := by rw [eq_iff_iff]; omega
    simp [q, q1, e]
  · have q1 : ¬ (bs.length : Int) ≥ 2 := by omega
    simp [q, q1]
/-- a text: a paired state or none -/
theorem pairCases (s : ByteArray) (hs : s.size ≤ 140737488351232) : (∃ bs : List Bool, s = sb bs ∧ 2 ≤ bs.length ∧ bs.length ≤ 12 ∧ ∀ k, 20 < k → spec_twGood.f k s = some true ∧ impl_isPaired.f s = some true) ∨ (∀ k, 20 < k → spec_twGood.f k s = some false ∧ impl_isPaired.f s = some false) := by
  rcases stateCases s with ⟨bs, rfl, hb⟩ | ⟨l, rfl, hl⟩
  · by_cases q : 2 ≤ bs.length ∧ bs.length ≤ 12
    · refine .inl ⟨bs, rfl, q.1, q.2, fun k hk => ?_⟩
      have := twGood hb.1 hb.2 hk
      simpa [q] using this
    · refine .inr fun k hk => ?_
      have := twGood hb.1 hb.2 hk
      rw [decide_eq_false q] at this
      exact this
  · refine .inr fun k hk => ?_
    rw [tx_size] at hs
    unfold spec_twGood.f impl_isPaired.f
    rw [riGood hk, isState hs, hl]
    exact ⟨rfl, rfl⟩

end Go.Proofs.YtgmmplcijhibgaaDoor.Pure
