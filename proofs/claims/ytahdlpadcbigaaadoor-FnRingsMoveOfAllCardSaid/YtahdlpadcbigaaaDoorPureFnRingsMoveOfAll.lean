/- The great law of moves, whatever is given: its printed function always answers yes; no condition beyond the kinds of the numbers and the sizes that any argument has. -/
import Derived.Test.YtahdlpadcbigaaaDoorAx1
import Derived.Test.YtahdlpadcbigaaaDoorAx2
import Derived.Test.YtahdlpadcbigaaaDoorAx3
import Derived.Test.YtahdlpadcbigaaaDoorAx6
import Derived.Test.YtahdlpadcbigaaaDoorVals
set_option linter.unusedVariables false
set_option linter.unusedSimpArgs false
namespace Go.Proofs.YtahdlpadcbigaaaDoor.Pure
open Go.RowKit Go.Proofs.YtahdlpadcbigaaaDoor.A Go.Proofs.YtahdlpadcbigaaaDoorW.PrintWords Go.Proofs.YtahdlpadcbigaaaDoorW.PrintLast Go.Proofs.YtahdlpadcbigaaaDoorW.PrintMore

/-! the law, from its end to its beginning -/
theorem tail_ok {rings n : Int} {t : ByteArray} {b : Bool} (h : SN rings n t b) {k : Nat} (hk : 70 < k) :
    (if b = true then ((impl_NumberOfState.f k t).bind fun bt => (if bt.2 = true then (if bt.1 = n then (some ((t.size : Int) == rings)) else (some false)) else (some false))) else (some true)) = some true := by
  rcases h with ⟨rfl, r, n, rfl, rfl, h1, h2, hn, rfl⟩ | rfl
  · have e := numI (bs := M.st r n) (k := k) (by rw [M.st_length]; exact h1) (by rw [M.st_length]; exact h2) (by omega)
    rw [M.num_st hn] at e
    rw [if_pos rfl, e, Option.bind_some, sb_size, M.st_length]
    simp
  · rw [if_neg (by decide)]
theorem j9_ok {s : ByteArray} {l : List Int} {t : ByteArray} {seven nine th : Bool} {p rings n : Int} {st : ByteArray} (hP : PL s l t seven p nine) (hS : SN rings n st th) {k : Nat} (hk : 5000 < k) : laws_FnRingsMoveOfAll.j10 k s l rings n p nine st th = some true := by
  obtain ⟨k, rfl⟩ : ∃ m, k = m + 1 := ⟨k - 1, by omega⟩
  rw [laws_FnRingsMoveOfAll.j10]
  have ht := tail_ok hS (k := k) (by omega)
  rcases hP with ⟨_, rfl, _⟩ | ⟨_, rfl, bs, b, j, rfl, h1, h2, hl, hp, rfl⟩ | ⟨_, rfl⟩
  · rw [if_neg (by decide)]
    exact ht
  · obtain ⟨d, m, hj, hp2, hm, hc, hb⟩ := playB_fail l bs b 0 j hp
    have hd : d = j := by omega
    subst hd
    have hdl : d < l.length := (List.getElem?_eq_some_iff.1 hm).1
    have e1 := playI_yes (l := l.take d) (k := k) h1 h2 (by rw [List.length_take]; omega) hp2 (by rw [List.length_take]; omega)
    rw [if_pos rfl, if_pos (by omega), if_pos (by omega), Int.toNat_natCast, e1, Option.bind_some]
    simp only [if_true]
    rw [if_pos (by omega), rd_nat hm, moveI_no (by omega) (by omega) hc, Option.bind_some]
    simp only [Bool.false_eq_true, if_false]
    exact ht
  · rw [if_neg (by decide)]
    exact ht
theorem l3_ok {s : ByteArray} {l : List Int} {b : List Bool} {nine th : Bool} {p rings n : Int} {st : ByteArray} (hl : l.length ≤ 2000000) (HJ : ∀ k, 5000 < k → laws_FnRingsMoveOfAll.j10 k s l rings n p nine st th = some true) (r : List Int) : ∀ (k i : Nat) (bs : List Bool), l.drop i = r → 1 ≤ bs.length → bs.length ≤ 20 → playB bs r i = (b, none) → r.length + 5001 < k →
    laws_FnRingsMoveOfAll.l3 k s l rings n (sb b) p nine st th (sb bs) l (l.length : Int) (i : Int) = some true := by
  induction r with
  | nil =>
    intro k i bs hd h1 h2 hp hk
    obtain ⟨k, rfl⟩ : ∃ m, k = m + 1 := ⟨k - 1, by omega⟩
    have : l.length ≤ i := List.drop_eq_nil_iff.1 hd
    rw [playB] at hp
    cases hp
    rw [laws_FnRingsMoveOfAll.l3, if_neg (by omega), if_pos rfl]
    exact HJ k (by simp at hk; omega)
  | cons m r ih =>
    intro k i bs hd h1 h2 hp hk
    obtain ⟨k, rfl⟩ : ∃ m, k = m + 1 := ⟨k - 1, by omega⟩
    obtain ⟨g2, g3, g4⟩ := getElem?_drop_cons hd
    simp only [List.length_cons] at hk
    rw [playB] at hp
    by_cases q : canI bs m = true
    · rw [if_pos q] at hp
      obtain ⟨j, rfl, hj, e⟩ := moveI_yes h1 h2 q
      rw [Int.toNat_natCast] at hp
      rw [laws_FnRingsMoveOfAll.l3, if_pos (by omega), if_pos (by omega), if_pos (by omega), rd_nat g2, e, Option.bind_some]
      simp only [if_true]
      rw [w64 (by omega) (by omega), show ((i : Int) + 1) = ((i + 1 : Nat) : Int) by omega]
      exact ih k (i + 1) _ g3 (by rw [M.flip_length]; exact h1) (by rw [M.flip_length]; exact h2) hp (by omega)
    · rw [if_neg q] at hp
      cases hp
theorem j7_ok {s : ByteArray} {l : List Int} {t : ByteArray} {seven nine th : Bool} {p rings n : Int} {st : ByteArray} (hl : l.length ≤ 2000000) (hP : PL s l t seven p nine) (hS : SN rings n st th) {k : Nat} (hk : l.length + 5010 < k) : laws_FnRingsMoveOfAll.j8 k s l rings n t seven p nine st th false = some true := by
  obtain ⟨k, rfl⟩ : ∃ m, k = m + 1 := ⟨k - 1, by omega⟩
  rw [laws_FnRingsMoveOfAll.j8, if_neg (by decide)]
  have hj : ∀ k, 5000 < k → laws_FnRingsMoveOfAll.j10 k s l rings n p nine st th = some true := fun k hk => j9_ok hP hS hk
  rcases hP with ⟨rfl, rfl, bs, b, rfl, h1, h2, hl2, hp, rfl⟩ | ⟨rfl, _, _⟩ | ⟨rfl, _⟩
  · rw [if_pos rfl]
    exact l3_ok hl hj l k 0 bs rfl h1 h2 hp (by omega)
  · rw [if_neg (by decide)]
    exact hj k (by omega)
  · rw [if_neg (by decide)]
    exact hj k (by omega)

theorem j6_ok {x1 : ByteArray} {x2 : List Int} {x3 : ByteArray} {x4 x5 x6 : Int} (h1 : x1.size ≤ 140737488351232) (h2 : x2.length ≤ 10000) (h3 : x3.size ≤ 140737488351232) {k : Nat} (hk : 20000 < k) : laws_FnRingsMoveOfAll.j7 k x1 x2 x3 x4 x5 x6 = some true := by
  obtain ⟨k, rfl⟩ : ∃ m, k = m + 1 := ⟨k - 1, by omega⟩
  obtain ⟨t, seven, p, nine, HP, v1⟩ := playAll x1 x2 h1 (by omega)
  obtain ⟨u, eleven, v2⟩ := moveBoth x3 x4 h3
  obtain ⟨st, th, HS, v3⟩ := stateNum x5 x6
  have v1 := v1 k (by omega)
  have v2 := v2 k (by omega)
  have v3 := v3 k (by omega)
  have hj := j7_ok (by omega) HP HS (k := k) (by omega)
  rw [laws_FnRingsMoveOfAll.j7, v1.1, Option.bind_some, v1.2.1, Option.bind_some, v1.2.2.1, Option.bind_some, v1.2.2.2, Option.bind_some, v2.1, Option.bind_some, v2.2, Option.bind_some, v3.1, Option.bind_some, v3.2, Option.bind_some]
  simp only [bne_self_eq_false, Bool.false_eq_true, if_false, if_true]
  rcases HP with ⟨rfl, rfl, _⟩ | ⟨rfl, rfl, _⟩ | ⟨rfl, rfl⟩
  · rw [if_pos rfl, if_neg (by decide)]
    exact hj
  · rw [if_neg (by decide)]
    exact hj
  · rw [if_neg (by decide)]
    exact hj

/-! a state's moves, one by one -/
theorem bt_small (bs : List Bool) {i : Nat} (h : i < bs.length) : bt (sb bs) (i : Int) < 128 := by
  rw [bt_sb (List.getElem?_eq_getElem h)]
  split <;> decide
theorem bt_flip {bs : List Bool} {i j : Nat} (h : i < bs.length) : (((bt (sb (M.flip bs j)) (i : Int)) != (bt (sb bs) (i : Int))) != ((i : Int) == (j : Int))) = false := by
  have hb := List.getElem?_eq_getElem h
  have hf := flip_get bs j i
  rw [hb] at hf
  by_cases q : i = j
  · rw [if_pos q] at hf
    have e : ((i : Int) == (j : Int)) = true := beq_iff_eq.mpr (by omega)
    rw [bt_sb hf, bt_sb hb, e]
    cases bs[i] <;> rfl
  · rw [if_neg q] at hf
    have e : ((i : Int) == (j : Int)) = false := beq_eq_false_iff_ne.mpr (by omega)
    rw [bt_sb hf, bt_sb hb, e, bne_self_eq_false]
    rfl
theorem l1_ok {x1 : ByteArray} {x2 : List Int} {x3 : ByteArray} {x4 x5 x6 : Int} {bs : List Bool} {x10 : Int} {far : List ByteArray} {most : Int} {j : Nat} {mv : List Int} {len i0 : Int} (h2 : bs.length ≤ 20) (K0 : Nat) (HN : ∀ k, K0 < k → laws_FnRingsMoveOfAll.l0 k  (sb bs) x1 x2 x3 x4 x5 x6 x10 far most mv len (wrap64 (i0 + 1)) = some true) (d : Nat) : ∀ (k i : Nat), i + d = bs.length → d + K0 + 1 < k →
    laws_FnRingsMoveOfAll.l1 k  (sb bs) x1 x2 x3 x4 x5 x6 x10 far most (j : Int) (sb (M.flip bs j)) mv len i0 (sb bs) i = some true := by
  induction d with
  | zero =>
    intro k i hi hk
    obtain ⟨k, rfl⟩ : ∃ m, k = m + 1 := ⟨k - 1, by omega⟩
    rw [laws_FnRingsMoveOfAll.l1, sb_size, if_neg (by omega)]
    exact HN k (by omega)
  | succ d ih =>
    intro k i hi hk
    obtain ⟨k, rfl⟩ : ∃ m, k = m + 1 := ⟨k - 1, by omega⟩
    rw [laws_FnRingsMoveOfAll.l1, sb_size, if_pos (by omega), if_pos (by omega), if_pos (bt_small bs (by omega)), sb_size, M.flip_length, if_pos (by omega), if_pos (by omega), bt_flip (by omega), if_neg (by decide)]
    exact ih k (i + 1) (by omega) (by omega)
theorem l2_ok {x1 : ByteArray} {x2 : List Int} {x3 : ByteArray} {x4 x5 x6 : Int} {bs : List Bool} {e : Nat} (h1 : 1 ≤ bs.length) (h2 : bs.length ≤ 20) (he : e < 2 ^ bs.length) (HJ : ∀ k, 20000 < k → laws_FnRingsMoveOfAll.j7 k x1 x2 x3 x4 x5 x6 = some true) {k : Nat} (hk : 20005 < k) :
    laws_FnRingsMoveOfAll.l2 k  (sb bs) x1 x2 x3 x4 x5 x6 (dst (M.num bs) e : Int) [sb (M.st bs.length e)] (([sb (M.st bs.length e)] : List ByteArray).length : Int) 0 = some true := by
  obtain ⟨k, rfl⟩ : ∃ m, k = m + 2 := ⟨k - 2, by omega⟩
  have hf := fewI (k := k + 1) (b := M.st bs.length e) h1 h2 (by rw [M.st_length]) (by omega)
  rw [M.num_st he] at hf
  have e1 : rdOf ByteArray.empty [sb (M.st bs.length e)] 0 = sb (M.st bs.length e) := rfl
  rw [laws_FnRingsMoveOfAll.l2, if_pos (by simp), if_pos (by omega), if_pos (by simp), e1, hf, Option.bind_some]
  simp only [if_true]
  rw [show wrap64 ((0 : Int) + 1) = 1 from by rw [w64 (by omega) (by omega)]; rfl, laws_FnRingsMoveOfAll.l2, if_neg (by simp)]
  exact HJ k (by omega)
theorem yAbs_one {n m : Nat} (hn : n < 2 ^ 40) (hm : m = n + 1 ∨ (0 < n ∧ m = n - 1)) : laws_yAbs.f (wrap64 ((m : Int) - (n : Int))) = some 1 := by
  unfold laws_yAbs.f
  rcases hm with rfl | ⟨h, rfl⟩
  · rw [w64 (by omega) (by omega), if_neg (by omega)]
    congr 1
    omega
  · have e : ((n - 1 : Nat) : Int) - (n : Int) = -1 := by omega
    rw [e, w64 (x := -1) (by omega) (by omega), if_pos (by omega), w64 (by omega) (by omega)]
    rfl
theorem l0_ok {x1 : ByteArray} {x2 : List Int} {x3 : ByteArray} {x4 x5 x6 : Int} {bs : List Bool} {e : Nat} (h1 : 1 ≤ bs.length) (h2 : bs.length ≤ 20) (he : e < 2 ^ bs.length) (HJ : ∀ k, 20000 < k → laws_FnRingsMoveOfAll.j7 k x1 x2 x3 x4 x5 x6 = some true) {mv : List Int} (hmv : ∀ m ∈ mv, ∃ j : Nat, m = (j : Int) ∧ M.canM bs j = true) (hlen : mv.length ≤ 40) (r : List Int) : ∀ (k i : Nat), mv.drop i = r → 40 * r.length + 20010 < k →
    laws_FnRingsMoveOfAll.l0 k  (sb bs) x1 x2 x3 x4 x5 x6 (M.num bs : Int) [sb (M.st bs.length e)] (dst (M.num bs) e : Int) mv (mv.length : Int) (i : Int) = some true := by
  have hbs : bs ≠ [] := by intro h; rw [h] at h1; simp at h1
  have hn := num_small (bs := bs) (by omega)
  induction r with
  | nil =>
    intro k i hd hk
    obtain ⟨k, rfl⟩ : ∃ m, k = m + 1 := ⟨k - 1, by omega⟩
    have : mv.length ≤ i := List.drop_eq_nil_iff.1 hd
    rw [laws_FnRingsMoveOfAll.l0, if_neg (by omega)]
    exact l2_ok h1 h2 he HJ (by simp at hk; omega)
  | cons m r ih =>
    intro k i hd hk
    obtain ⟨k, rfl⟩ : ∃ m, k = m + 1 := ⟨k - 1, by omega⟩
    obtain ⟨g2, g3, g4⟩ := getElem?_drop_cons hd
    simp only [List.length_cons] at hk
    obtain ⟨j, rfl, hc⟩ := hmv m (List.mem_of_getElem? g2)
    obtain ⟨hc2, hnum⟩ := can_flip hbs hc
    obtain ⟨j1, e1, hj1, m1⟩ := moveI_yes h1 h2 (a := (j : Int)) (by rw [canI_nat]; exact hc)
    obtain ⟨j2, e2, hj2, m2⟩ := moveI_yes (bs := M.flip bs j) (a := (j : Int)) (by rw [M.flip_length]; exact h1) (by rw [M.flip_length]; exact h2) (by rw [canI_nat]; exact hc2)
    have e1 : j1 = j := by omega
    have e2 : j2 = j := by omega
    subst e1
    subst e2
    rw [M.flip_flip] at m2
    have hN := numI (bs := M.flip bs j2) (k := k) (by rw [M.flip_length]; exact h1) (by rw [M.flip_length]; exact h2) (by omega)
    have hi : wrap64 ((i : Int) + 1) = ((i + 1 : Nat) : Int) := by rw [w64 (by omega) (by omega)]; omega
    have HI := Aside0.mk hi
    clear hi
    rw [laws_FnRingsMoveOfAll.l0, if_pos (by omega), if_pos (by omega), if_pos (by omega), rd_nat g2, m1, Option.bind_some]
    simp only
    rw [m2, Option.bind_some, hN, Option.bind_some]
    simp only [if_true]
    rw [yAbs_one hn hnum, Option.bind_some, bne_self_eq_false]
    obtain ⟨k, rfl⟩ : ∃ m, k = m + 1 := ⟨k - 1, by omega⟩
    rw [laws_FnRingsMoveOfAll.j4, if_neg (by decide)]
    obtain ⟨K0, hK⟩ : ∃ K0, K0 = 40 * r.length + 20010 := ⟨_, rfl⟩
    exact l1_ok h2 K0 (fun k hk => by rw [HI.out]; exact ih k (i + 1) g3 (by omega)) bs.length k 0 (by omega) (by omega)
theorem canL_mem {bs : List Bool} : ∀ m ∈ canL bs 0 bs.length, ∃ j : Nat, m = (j : Int) ∧ M.canM bs j = true := by
  intro m hm
  unfold canL at hm
  obtain ⟨j, hj, rfl⟩ := List.mem_map.1 hm
  exact ⟨j, rfl, (List.mem_filter.1 hj).2⟩
theorem j0_ok {x1 : ByteArray} {x2 : List Int} {x3 : ByteArray} {x4 x5 x6 : Int} {s : ByteArray} {mv : List Int} {num most : Int} {far : List ByteArray} {ok : Bool} (hF : FA s mv num far most ok) (HJ : ∀ k, 20000 < k → laws_FnRingsMoveOfAll.j7 k x1 x2 x3 x4 x5 x6 = some true) {k : Nat} (hk : 23000 < k) : laws_FnRingsMoveOfAll.j1 k  s x1 x2 x3 x4 x5 x6 mv ok num far most false = some true := by
  obtain ⟨k, rfl⟩ : ∃ m, k = m + 1 := ⟨k - 1, by omega⟩
  rw [laws_FnRingsMoveOfAll.j1, if_neg (by decide)]
  rcases hF with ⟨rfl, bs, e, rfl, h1, h2, rfl, rfl, he, rfl, rfl⟩ | rfl
  · have hn := M.num_lt bs
    have hp := pow20 h2
    obtain ⟨c1, c2, c3, c4⟩ := canL_count h1
    have hr : rd (canL bs 0 bs.length) 0 = 0 := by
      have := rd_nat (l := canL bs 0 bs.length) (i := 0) c1
      simpa using this
    have es : wrap64 (shl .i64 1 (bs.length : Int) - 1) = ((2 ^ bs.length - 1 : Nat) : Int) := by
      rw [shl_one (by omega), w64 (by omega) (by omega)]; omega
    have ES := Aside0.mk es
    clear es
    have hst : impl_StateOfNumber.f k ((sb bs).size : Int) (M.num bs : Int) = some (sb bs, true) := by
      obtain ⟨t, b, hS, hv⟩ := stateNum (bs.length : Int) (M.num bs : Int)
      have hv := (hv k (by omega)).1
      unfold impl_StateOfNumber.f impl_in.f
      rw [sb_size, ES.out]
      have g1 : (bs.length : Int) ≥ 1 := by omega
      have g2 : (bs.length : Int) ≤ 20 := by omega
      have g3 : (0 : Int) ≤ bs.length := by omega
      have g4 : (M.num bs : Int) ≥ 0 := by omega
      have g5 : (M.num bs : Int) ≤ ((2 ^ bs.length - 1 : Nat) : Int) := by omega
      rw [state (by omega) (by omega) (by omega), M.st_num]
      simp [g1, g2, g3, g4, g5]
    have hl : ∀ k, 22000 < k → laws_FnRingsMoveOfAll.l0 k  (sb bs) x1 x2 x3 x4 x5 x6 (M.num bs : Int) [sb (M.st bs.length e)] (dst (M.num bs) e : Int) (canL bs 0 bs.length) ((canL bs 0 bs.length).length : Int) 0 = some true := fun k hk =>
      l0_ok h1 h2 he HJ canL_mem (by omega) (canL bs 0 bs.length) k 0 rfl (by omega)
    have hj1 : laws_FnRingsMoveOfAll.j2 k  (sb bs) x1 x2 x3 x4 x5 x6 (canL bs 0 bs.length) (M.num bs : Int) [sb (M.st bs.length e)] (dst (M.num bs) e : Int) (decide ((([sb (M.st bs.length e)] : List ByteArray).length : Int) > 2)) = some true := by
      obtain ⟨k, rfl⟩ : ∃ m, k = m + 1 := ⟨k - 1, by omega⟩
      rw [laws_FnRingsMoveOfAll.j2, decide_eq_false (by simp), if_neg (by decide)]
      exact hl k (by omega)
    rw [if_pos rfl, hst, Option.bind_some, if_neg (by omega), if_neg (by omega), if_pos (by omega), hr, if_pos rfl, if_neg (by omega), sb_size, shl_one (by omega), if_neg (by omega)]
    simp only [if_true]
    rw [← shl_one (by omega), ES.out]
    by_cases q : M.num bs = 0
    · have e1 : (((canL bs 0 bs.length).length : Int) == 1) = true := beq_iff_eq.mpr (by have := c4.2 (.inl q); omega)
      rw [if_pos (by omega), e1, bne_self_eq_false, if_neg (by decide), if_neg (by simp)]
      exact hj1
    · have e1 : (((canL bs 0 bs.length).length : Int) == 1) = ((M.num bs : Int) == ((2 ^ bs.length - 1 : Nat) : Int)) := by
        rw [Bool.eq_iff_iff, beq_iff_eq, beq_iff_eq]
        constructor
        · intro h
          rcases c4.1 (by omega) with h | h
          · exact absurd h q
          · omega
        · intro h
          have := c4.2 (.inr (by omega))
          omega
      rw [if_neg (by omega), e1, bne_self_eq_false, if_neg (by decide), if_neg (by simp)]
      exact hj1
  · rw [if_neg (by decide)]
    exact HJ k (by omega)

theorem start_ok {x0 x1 : ByteArray} {x2 : List Int} {x3 : ByteArray} {x4 x5 x6 : Int} (h0 : x0.size ≤ 140737488351232) (h1 : x1.size ≤ 140737488351232) (h2 : x2.length ≤ 10000) (h3 : x3.size ≤ 140737488351232) {k : Nat} (hk : 23010 < k) : laws_FnRingsMoveOfAll.j0 k x0 x1 x2 x3 x4 x5 x6 false = some true := by
  obtain ⟨k, rfl⟩ : ∃ m, k = m + 1 := ⟨k - 1, by omega⟩
  obtain ⟨mv, num, cnt, far, most, ok, HF, hmv, hfar, v⟩ := stateAll x0 h0
  have v := v k (by omega)
  obtain ⟨v1, v2, v3, v4, v5, v6, v7, v8, v9, v10⟩ := v
  have s1 := ySame_self (l := mv) (k := k) (by omega) (by omega)
  have s2 := yTexts_self (l := far) (k := k) (by omega) (by omega)
  have hj := j0_ok (x1 := x1) (x2 := x2) (x3 := x3) (x4 := x4) (x5 := x5) (x6 := x6) HF (fun k hk => j6_ok h1 h2 h3 hk) (k := k) (by omega)
  rw [laws_FnRingsMoveOfAll.j0, if_neg (by decide), v1, Option.bind_some, v2, Option.bind_some, v3, Option.bind_some, v4, Option.bind_some, v5, Option.bind_some, v6, Option.bind_some, v7, Option.bind_some, v8, Option.bind_some]
  simp only [bne_self_eq_false, Bool.false_eq_true, if_false, if_true, s1, s2, v9, v10, Option.bind_some]
  exact hj
theorem FnRingsMoveOfAll : laws_FnRingsMoveOfAll.Pure := by
  intro a0 a1 l2 a3 a4 a5 a6 h0 h1 _ _ _ h3 _ _ _
  obtain ⟨k, hk⟩ : ∃ k : Nat, k = 23011 := ⟨_, rfl⟩
  refine ⟨k, ?_⟩
  have out : laws_FnRingsMoveOfAll.j0 k a0 a1 l2 a3 a4 a5 a6 true = some true := by
    obtain ⟨k, rfl⟩ : ∃ m, k = m + 1 := ⟨k - 1, by omega⟩
    rw [laws_FnRingsMoveOfAll.j0, if_pos rfl]
  unfold laws_FnRingsMoveOfAll.f
  by_cases q0 : (a0.size : Int) > 1048576
  · rw [if_pos q0]; exact out
  · by_cases q1 : (a1.size : Int) > 1048576
    · rw [if_neg q0, if_pos q1]; exact out
    · by_cases q2 : (l2.length : Int) > 10000
      · rw [if_neg q0, if_neg q1, if_pos q2]; exact out
      · rw [if_neg q0, if_neg q1, if_neg q2]
        by_cases q3 : (a3.size : Int) > 1048576
        · rw [decide_eq_true q3]; exact out
        · rw [decide_eq_false q3]
          exact start_ok h0 h1 (by omega) h3 (by omega)

end Go.Proofs.YtahdlpadcbigaaaDoor.Pure
