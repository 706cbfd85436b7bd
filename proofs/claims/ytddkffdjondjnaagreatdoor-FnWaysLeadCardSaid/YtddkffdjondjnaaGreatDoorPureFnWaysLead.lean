/- The great law of ways: its printed function always answers yes. -/
import Derived.Test.YtddkffdjondjnaaGreatDoorAx1
import Derived.Test.YtddkffdjondjnaaGreatDoorAx10
import Derived.Test.YtddkffdjondjnaaGreatDoorAx2
import Derived.Test.YtddkffdjondjnaaGreatDoorAx3
import Derived.Test.YtddkffdjondjnaaGreatDoorAx4
import Derived.Test.YtddkffdjondjnaaGreatDoorAx5
import Derived.Test.YtddkffdjondjnaaGreatDoorAx6
import Derived.Test.YtddkffdjondjnaaGreatDoorAx7
import Derived.Test.YtddkffdjondjnaaGreatDoorAx8
import Derived.Test.YtddkffdjondjnaaGreatDoorAx9
import Derived.Test.YtddkffdjondjnaaGreatDoorWL3
import Derived.Test.YtddkffdjondjnaaGreatDoorDraw
set_option linter.unusedVariables false
set_option linter.unusedSimpArgs false
namespace Go.Proofs.YtddkffdjondjnaaGreatDoor.Pure
open Go.RowKit Go.Proofs.YtddkffdjondjnaaGreatDoor.A Go.Proofs.YtddkffdjondjnaaGreatDoorW.PrintWords Go.Proofs.YtddkffdjondjnaaGreatDoorW.PrintLast Go.Proofs.YtddkffdjondjnaaGreatDoorW.PrintMore

/-- what ParseMoves has read -/
def PR (x4 : ByteArray) (x69 : List Int) (x70 : Bool) : Prop := (x70 = true ∧ ∃ l : List UInt8, x4 = tx l ∧ l.length ≤ 2000 ∧ pOk l = true ∧ x69 = pNs l) ∨ (x70 = false ∧ x69 = [])
theorem pr_of (x4 : ByteArray) : ∃ x69 x70, PR x4 x69 x70 ∧ x69.length ≤ 2000 ∧ ∀ k, x4.size < k → spec_ParseMoves.f k x4 = some (x69, x70) ∧ impl_ParseMoves.f k x4 = some (x69, x70) := by
  obtain ⟨l, rfl⟩ : ∃ l, x4 = tx l := ⟨_, tx_of x4⟩
  have hlen := parsed_length l
  refine ⟨(parsed l).1, (parsed l).2, ?_, hlen, fun k hk => ?_⟩
  · unfold parsed pRes
    by_cases h : l.length ≤ 2000
    · rw [if_pos h]
      by_cases q : pOk l = true
      · rw [if_pos q]; exact .inl ⟨rfl, l, rfl, h, q, rfl⟩
      · rw [if_neg q]; exact .inr ⟨rfl, rfl⟩
    · rw [if_neg h]; exact .inr ⟨rfl, rfl⟩
  · rw [tx_size] at hk
    exact ⟨specParse hk, implParse hk⟩
theorem tail_ok {x4 : ByteArray} {x69 : List Int} {x70 : Bool} (H : PR x4 x69 x70) {k : Nat} (hk : 2010 < k) :
    (if x70 = true then ((impl_MovesText.f k x69).bind fun bt => (if bt.2 = true then (some (bt.1.toList == x4.toList)) else (some false))) else (some true)) = some true := by
  rcases H with ⟨rfl, l, rfl, hl, hp, rfl⟩ | ⟨rfl, rfl⟩
  · obtain ⟨e, hr⟩ := ltr_pNs hp
    rw [if_pos rfl, (movesText_yes (l := pNs l) (by unfold pNs; rw [List.length_map]; exact hl) hr hk).2, e]
    simp
  · rw [if_neg (by decide)]
theorem j13_ok {x4 : ByteArray} {x69 : List Int} {x70 : Bool} (H : PR x4 x69 x70) {k : Nat} (hk : 2011 < k) : laws_FnWaysLead.j12 k x4 x69 x70 false = some true := by
  obtain ⟨k, rfl⟩ : ∃ m, k = m + 1 := ⟨k - 1, by omega⟩
  rw [laws_FnWaysLead.j12, if_neg (by decide)]
  exact tail_ok H (by omega)
/-- what MovesText has written -/
def WR (x3 : List Int) (x65 : ByteArray) (x66 : Bool) : Prop := (x66 = true ∧ x3.length ≤ 2000 ∧ (∀ x ∈ x3, 0 ≤ x ∧ x ≤ 19) ∧ x65 = tx (x3.map ltr)) ∨ x66 = false
theorem j12_ok {x3 : List Int} {x4 x65 : ByteArray} {x66 : Bool} {x69 : List Int} {x70 : Bool} (HW : WR x3 x65 x66) (H : PR x4 x69 x70) {k : Nat} (hk : 2015 < k) : laws_FnWaysLead.j11 k x3 x65 x66 x4 x69 x70 = some true := by
  obtain ⟨k, rfl⟩ : ∃ m, k = m + 1 := ⟨k - 1, by omega⟩
  rw [laws_FnWaysLead.j11]
  rcases HW with ⟨rfl, hl, hr, rfl⟩ | rfl
  · obtain ⟨e1, e2⟩ := pNs_ltr hr
    have hp : parsed (x3.map ltr) = (x3, true) := by
      unfold parsed pRes
      rw [if_pos (by rw [List.length_map]; exact hl), if_pos e1, e2]
    rw [if_pos rfl, implParse (by rw [List.length_map]; omega), hp]
    simp only [Option.bind_some, if_true]
    rw [ySame_self (by omega) (by omega)]
    exact j13_ok H (by omega)
  · rw [if_neg (by decide)]
    exact tail_ok H (by omega)
/-- whole rows of rings -/
def RG (x2 : Int) (x53 : Int) (x54 : Bool) (x57 x61 : ByteArray) : Prop := (x54 = true ∧ ∃ r : Nat, x2 = (r : Int) ∧ 1 ≤ r ∧ r ≤ 20 ∧ x53 = ((2 ^ (r + 1) / 3 : Nat) : Int) ∧ x57 = sb (List.replicate r true) ∧ x61 = sb (M.st r (2 ^ r - 1))) ∨ x54 = false
theorem j11_ok {x2 : Int} {x3 : List Int} {x4 : ByteArray} {x53 : Int} {x54 : Bool} {x57 x61 x65 : ByteArray} {x66 : Bool} {x69 : List Int} {x70 : Bool} (HR : RG x2 x53 x54 x57 x61) (HW : WR x3 x65 x66) (H : PR x4 x69 x70) {k : Nat} (hk : 2016 < k) :
    laws_FnWaysLead.j10 k x2 x53 x54 x57 x61 x3 x65 x66 x4 x69 x70 false = some true := by
  obtain ⟨k, rfl⟩ : ∃ m, k = m + 1 := ⟨k - 1, by omega⟩
  rw [laws_FnWaysLead.j10, if_neg (by decide)]
  have hj := j12_ok HW H (k := k) (by omega)
  rcases HR with ⟨rfl, r, rfl, h1, h2, rfl, rfl, rfl⟩ | rfl
  · have hp : 2 ^ r ≤ 2 ^ 20 := Nat.pow_le_pow_right (by decide) h2
    have hpp : 2 ^ (r + 1) = 2 * 2 ^ r := by rw [Nat.pow_succ, Nat.mul_comm]
    have hpos := Nat.two_pow_pos r
    have n1 := numState (bs := List.replicate r true) (k := k) (by rw [List.length_replicate]; exact h1) (by rw [List.length_replicate]; exact h2) (by omega)
    have n2 := numState (bs := M.st r (2 ^ r - 1)) (k := k) (by rw [M.st_length]; exact h1) (by rw [M.st_length]; exact h2) (by omega)
    rw [M.num_ones] at n1
    rw [M.num_st (by omega)] at n2
    have s1 : wrap64 (shl .i64 1 (r : Int) - 1) = ((2 ^ r - 1 : Nat) : Int) := by
      rw [shl_one (by omega), w64 (by omega) (by omega)]; omega
    have s0 : wrap64 ((r : Int) + 1) = ((r + 1 : Nat) : Int) := by rw [w64 (by omega) (by omega)]; omega
    have s2 : wrap64 (Int.tdiv (shl .i64 1 ((r + 1 : Nat) : Int)) 3) = ((2 ^ (r + 1) / 3 : Nat) : Int) := by
      rw [shl_one (by omega), Int.tdiv_eq_ediv_of_nonneg (by omega), w64 (by omega) (by omega)]; omega
    rw [if_pos rfl, n1, n2, s0, s1, s2]
    simp only [Option.bind_some, if_true, Int.natCast_nonneg]
    exact hj
  · rw [if_neg (by decide)]
    exact hj
theorem j9_ok {mo : List Int} (h : RD mo 0) {k : Nat} (hk : 1048580 < k) : laws_FnWaysLead.j9 k mo = some true := by
  obtain ⟨k, rfl⟩ : ∃ m, k = m + 1 := ⟨k - 1, by omega⟩
  obtain ⟨x2, d2⟩ := dClear h
  obtain ⟨x3, h3, d3⟩ := dMovesText h
  obtain ⟨x4, h4, d4⟩ := dParse h
  have d3 := d3 k (by omega)
  have d4 := d4 k (by omega)
  obtain ⟨x69, x70, HP, hl, hp⟩ := pr_of x4
  have hp := hp k (by omega)
  obtain ⟨x65, x66, HW, hw⟩ : ∃ x65 x66, WR x3 x65 x66 ∧ (spec_MovesText.f k x3 = some (x65, x66) ∧ impl_MovesText.f k x3 = some (x65, x66)) := by
    by_cases h : x3.length ≤ 2000 ∧ ∀ x ∈ x3, 0 ≤ x ∧ x ≤ 19
    · exact ⟨_, true, .inl ⟨rfl, h.1, h.2, rfl⟩, movesText_yes h.1 h.2 (by omega)⟩
    · exact ⟨_, false, .inr rfl, movesText_no h3 h (by omega)⟩
  obtain ⟨x53, x54, x57, x61, HR, hr⟩ : ∃ x53 x54 x57 x61, RG x2 x53 x54 x57 x61 ∧ (impl_AllOn.f x2 = some (x57, x54) ∧ spec_AllOn.f k x2 = some (x57, x54) ∧ impl_MovesToClear.f k x2 = some (x53, x54) ∧ spec_MovesToClear.f k x2 = some (x53, x54) ∧ impl_OtherEnd.f k x2 = some (x61, x54) ∧ spec_OtherEnd.f k x2 = some (x61, x54)) := by
    by_cases h : 1 ≤ x2 ∧ x2 ≤ 20
    · obtain ⟨r, rfl⟩ := Int.eq_ofNat_of_zero_le (show 0 ≤ x2 by omega)
      have g1 : 1 ≤ r := by omega
      have g2 : r ≤ 20 := by omega
      have a := allOn_yes (k := k) g1 g2 (by omega)
      have b := clear_yes (k := k) g1 g2 (by omega)
      have c := other_yes (k := k) g1 g2 (by omega)
      exact ⟨_, true, _, _, .inl ⟨rfl, r, rfl, g1, g2, rfl, rfl, rfl⟩, a.1, a.2, b.1, b.2, c.1, c.2⟩
    · exact ⟨_, false, _, _, .inr rfl, rings_no h⟩
  rw [laws_FnWaysLead.j9, d2, Option.bind_some, hr.2.2.1, hr.2.2.2.1, hr.1, hr.2.1, hr.2.2.2.2.1, hr.2.2.2.2.2, d3, d4]
  simp only [Option.bind_some]
  rw [hw.1, hw.2]
  simp only [Option.bind_some]
  rw [hp.1, hp.2]
  simp only [Option.bind_some, bne_self_eq_false, Bool.false_eq_true, if_false, if_true]
  rw [ySame_self (by omega) (by omega)]
  simp only [Option.bind_some, if_true]
  exact j11_ok HR HW HP (by omega)
theorem bt_of {l : List ByteArray} {i : Nat} {x : ByteArray} (h : l[i]? = some x) : rdOf ByteArray.empty l (i : Int) = x := by
  unfold rdOf; rw [Int.toNat_natCast, List.getD, h]; rfl
theorem l2_ok {r n m : Nat} (h1 : 1 ≤ r) (h2 : r ≤ 20) (hn : n < 2 ^ r) (hm : m < 2 ^ r) (hd : dst n m ≤ 2000) {mo : List Int}
    (HJ : ∀ k, 1048580 < k → laws_FnWaysLead.j9 k mo = some true) (d : Nat) : ∀ (k i : Nat), i + d = dst n m + 1 → 1 ≤ i → 2 * d + 1048700 < k →
    laws_FnWaysLead.l2 k mo (sb (M.st r n) :: betL r (dst n m) n m) (i : Int) = some true := by
  have hl : (sb (M.st r n) :: betL r (dst n m) n m).length = dst n m + 1 := by rw [List.length_cons, betL_length]
  induction d with
  | zero =>
    intro k i hi h0 hk
    obtain ⟨k, rfl⟩ : ∃ m, k = m + 1 := ⟨k - 1, by omega⟩
    rw [laws_FnWaysLead.l2, if_neg (by omega)]
    obtain ⟨k, rfl⟩ : ∃ m, k = m + 1 := ⟨k - 1, by omega⟩
    rw [laws_FnWaysLead.j8, if_neg (by decide)]
    exact HJ k (by omega)
  | succ d ih =>
    intro k i hi h0 hk
    obtain ⟨k, rfl⟩ : ∃ m, k = m + 1 := ⟨k - 1, by omega⟩
    rw [laws_FnWaysLead.l2, if_pos (by omega)]
    obtain ⟨k, rfl⟩ : ∃ m, k = m + 1 := ⟨k - 1, by omega⟩
    rw [laws_FnWaysLead.j8]
    by_cases q : (i : Int) < 100
    · obtain ⟨j, rfl⟩ : ∃ j, i = j + 1 := ⟨i - 1, by omega⟩
      have b1 := bt_of (bet_get (r := r) (m := m) (dst n m) n j rfl (by omega))
      have b2 := bt_of (bet_get (r := r) (m := m) (dst n m) n (j + 1) rfl (by omega))
      have f := (few_st (k := k) h1 h2 (ptn_lt hn hm (i := j) (by omega)) (ptn_lt hn hm (i := j + 1) (by omega)) (by omega)).2
      rw [ptn_step (by omega), show ((1 : Nat) : Int) = 1 from rfl] at f
      have c1 : (0 : Int) ≤ (j : Int) := by omega
      have c2 : (j : Int) < ((sb (M.st r n) :: betL r (dst n m) n m).length : Int) := by omega
      have c3 : (0 : Int) ≤ ((j + 1 : Nat) : Int) := by omega
      have c4 : ((j + 1 : Nat) : Int) < ((sb (M.st r n) :: betL r (dst n m) n m).length : Int) := by omega
      have e1 : wrap64 (((j + 1 : Nat) : Int) - 1) = (j : Int) := by rw [w64 (by omega) (by omega)]; omega
      have e2 : wrap64 (((j + 1 : Nat) : Int) + 1) = ((j + 1 + 1 : Nat) : Int) := by clear e1; rw [w64 (by omega) (by omega)]; omega
      rw [decide_eq_true q, if_pos rfl, e1, if_pos c1, if_pos c2, if_pos c3, if_pos c4, b1, b2, f, Option.bind_some, if_pos rfl, if_pos rfl, e2]
      clear e1 e2
      exact ih k (j + 1 + 1) (by omega) (by omega) (by omega)
    · rw [decide_eq_false q, if_neg (by decide)]
      exact HJ k (by omega)
/-- the states between: told or not -/
def BT (r n m : Nat) (B : List ByteArray) (c : Bool) : Prop := (c = true ∧ dst n m < 2000 ∧ B = sb (M.st r n) :: betL r (dst n m) n m) ∨ c = false
theorem j6_ok {r n m : Nat} (h1 : 1 ≤ r) (h2 : r ≤ 20) (hn : n < 2 ^ r) (hm : m < 2 ^ r) {mo : List Int} {B : List ByteArray} {c : Bool} (HB : BT r n m B c)
    (HJ : ∀ k, 1048580 < k → laws_FnWaysLead.j9 k mo = some true) {k : Nat} (hk : 1053000 < k) :
    laws_FnWaysLead.j5 k mo (sb (M.st r n)) (sb (M.st r m)) (dst n m : Int) B c = some true := by
  obtain ⟨k, rfl⟩ : ∃ m, k = m + 1 := ⟨k - 1, by omega⟩
  rw [laws_FnWaysLead.j5]
  rcases HB with ⟨rfl, hd, rfl⟩ | rfl
  · have hl : (sb (M.st r n) :: betL r (dst n m) n m).length = dst n m + 1 := by rw [List.length_cons, betL_length]
    have b0 := bet_get (r := r) (m := m) (dst n m) n 0 rfl (by omega)
    have b1 := bet_get (r := r) (m := m) (dst n m) n (dst n m) rfl (by omega)
    rw [ptn_end] at b1
    have p0 : ptn n m 0 = n := by unfold ptn; split <;> omega
    rw [p0] at b0
    have e0 := bt_of b0
    rw [if_pos rfl, hl, if_pos (by rw [w64 (by omega) (by omega)]; omega), if_pos (by omega), show (0 : Int) = ((0 : Nat) : Int) from rfl, e0, if_pos rfl, if_pos (by omega), if_pos (by omega), bt_of b1, bne_self_eq_false]
    obtain ⟨k, rfl⟩ : ∃ m, k = m + 1 := ⟨k - 1, by omega⟩
    rw [laws_FnWaysLead.j6, if_neg (by decide)]
    exact l2_ok h1 h2 hn hm (by omega) HJ (dst n m) k 1 (by omega) (by omega) (by omega)
  · rw [if_neg (by decide)]
    exact HJ k (by omega)
theorem l1_ok {x0 x1 : ByteArray} {mo : List Int} {W : List Int} {x15 : Int} {B : List ByteArray} {c : Bool} {y : Int} {T : List Int} {r : Nat} {j : Int} {v : Int} (hW : W.length ≤ 2000) (K0 : Nat)
    (HN : ∀ k, K0 < k → laws_FnWaysLead.l0 k mo x0 x1 W x15 B c T (r : Int) (wrap64 (j + 1)) = some true) (s : List Int) : ∀ (k i a : Nat), W.drop i = s → a ≤ i → ((a + s.count y : Nat) : Int) = v → s.length + K0 + 5 < k →
    laws_FnWaysLead.l1 k mo x0 x1 W x15 B c y v (a : Int) T (r : Int) j W (W.length : Int) (i : Int) = some true := by
  induction s with
  | nil =>
    intro k i a hd ha hv hk
    obtain ⟨k, rfl⟩ : ∃ m, k = m + 1 := ⟨k - 1, by omega⟩
    have : W.length ≤ i := List.drop_eq_nil_iff.1 hd
    rw [List.count_nil, Nat.add_zero] at hv
    rw [laws_FnWaysLead.l1, if_neg (by omega), if_pos hv]
    exact HN k (by simp at hk; omega)
  | cons x s ih =>
    intro k i a hd ha hv hk
    obtain ⟨k, rfl⟩ : ∃ m, k = m + 1 := ⟨k - 1, by omega⟩
    obtain ⟨h2, h3, h4⟩ := getElem?_drop_cons hd
    simp only [List.length_cons] at hk
    rw [List.count_cons] at hv
    rw [laws_FnWaysLead.l1, if_pos (by omega), if_pos (by omega), if_pos (by omega), rd_nat h2, w64 (x := (i : Int) + 1) (by omega) (by omega), show ((i : Int) + 1) = ((i + 1 : Nat) : Int) by omega]
    by_cases q : x = y
    · rw [if_pos (by simpa using q)] at hv
      rw [if_pos q, w64 (x := (a : Int) + 1) (by omega) (by omega), show ((a : Int) + 1) = ((a + 1 : Nat) : Int) by omega]
      exact ih k (i + 1) (a + 1) h3 (by omega) (by rw [← hv]; congr 1; omega) (by omega)
    · rw [if_neg (by simpa using q)] at hv
      rw [if_neg q]
      exact ih k (i + 1) a h3 (by omega) hv (by omega)
theorem l0_ok {r n m : Nat} (h2 : r ≤ 20) {x0 x1 : ByteArray} {mo : List Int} {x15 : Int} {B : List ByteArray} {c : Bool} (hd : dst n m ≤ 2000)
    (HJ : ∀ k, 1053000 < k → laws_FnWaysLead.j5 k mo x0 x1 x15 B c = some true) (d : Nat) : ∀ (k j : Nat), j + d = r → 3000 * d + 1053001 < k →
    laws_FnWaysLead.l0 k mo x0 x1 (wayL (dst n m) n m) x15 B c (tml r n m) (r : Int) (j : Int) = some true := by
  have hlw := wayL_length (dst n m) n m
  induction d with
  | zero =>
    intro k j hj hk
    obtain ⟨k, rfl⟩ : ∃ m, k = m + 1 := ⟨k - 1, by omega⟩
    rw [laws_FnWaysLead.l0, if_neg (by omega)]
    exact HJ k (by omega)
  | succ d ih =>
    intro k j hj hk
    obtain ⟨k, rfl⟩ : ∃ m, k = m + 1 := ⟨k - 1, by omega⟩
    rw [laws_FnWaysLead.l0, if_pos (by omega), if_pos (by omega), if_pos (by rw [tml_length]; omega), rd_nat (tml_get (by omega))]
    obtain ⟨K0, hK⟩ : ∃ K0, K0 = 3000 * d + 1053001 := ⟨_, rfl⟩
    refine l1_ok (by omega) K0 (fun k hk => ?_) (wayL (dst n m) n m) k 0 0 (by simp) (by omega) (by rw [way_count, Nat.zero_add]) (by rw [hlw]; omega)
    rw [w64 (by omega) (by omega), show ((j : Int) + 1) = ((j + 1 : Nat) : Int) by omega]
    exact ih k (j + 1) (by omega) (by omega)
/-- the way: told or not; its first move -/
def WY (n m : Nat) (W : List Int) (ok : Bool) : Prop := (ok = true ∧ dst n m ≤ 2000 ∧ W = wayL (dst n m) n m) ∨ ok = false
def NX (n m : Nat) (x : Int) (t : Bool) : Prop := (t = true ∧ n ≠ m ∧ x = (rng n m : Int)) ∨ t = false
theorem j2_ok {r n m : Nat} (h1 : 1 ≤ r) (h2 : r ≤ 20) (hn : n < 2 ^ r) (hm : m < 2 ^ r) {mo : List Int} {B : List ByteArray} {c : Bool} {W : List Int} {ok : Bool} {x : Int} {t : Bool} (HW : WY n m W ok) (HX : NX n m x t)
    (HJ : ∀ k, 1053000 < k → laws_FnWaysLead.j5 k mo (sb (M.st r n)) (sb (M.st r m)) (dst n m : Int) B c = some true) {k : Nat} (hk : 1200000 < k) :
    laws_FnWaysLead.j1 k mo (sb (M.st r n)) (sb (M.st r m)) W ok (dst n m : Int) x t B c (tml r n m) = some true := by
  obtain ⟨k, rfl⟩ : ∃ m, k = m + 1 := ⟨k - 1, by omega⟩
  rw [laws_FnWaysLead.j1]
  rcases HW with ⟨rfl, hd, rfl⟩ | rfl
  · have hlw := wayL_length (dst n m) n m
    have h3 : ∀ k, 1190000 < k → laws_FnWaysLead.j2 k mo (sb (M.st r n)) (sb (M.st r m)) (wayL (dst n m) n m) (dst n m : Int) B c (tml r n m) false = some true := by
      intro k hk
      obtain ⟨k, rfl⟩ : ∃ m, k = m + 1 := ⟨k - 1, by omega⟩
      rw [laws_FnWaysLead.j2, if_neg (by decide), tml_length]
      exact l0_ok h2 hd HJ r k 0 (by omega) (by omega)
    rw [if_pos rfl, playMoves_way h1 h2 hn hm hd (by omega)]
    simp only [Option.bind_some, if_true, hlw]
    rcases HX with ⟨rfl, hne, rfl⟩ | rfl
    · have hz : 0 < dst n m := by
        have : dst n m ≠ 0 := fun h => hne (dst_zero.1 h)
        omega
      rw [if_pos rfl, if_pos (by omega), show (0 : Int) = ((0 : Nat) : Int) from rfl, rd_nat (way_head hne), bne_self_eq_false]
      exact h3 k (by omega)
    · rw [if_neg (by decide)]
      exact h3 k (by omega)
  · rw [if_neg (by decide)]
    exact HJ k (by omega)
theorem j1_ok {r n m : Nat} (h1 : 1 ≤ r) (h2 : r ≤ 20) (hn : n < 2 ^ r) (hm : m < 2 ^ r) {mo : List Int} {B : List ByteArray} {c : Bool} {W : List Int} {ok : Bool} {x : Int} {t : Bool} (HW : WY n m W ok) (HX : NX n m x t)
    (HJ : ∀ k, 1053000 < k → laws_FnWaysLead.j5 k mo (sb (M.st r n)) (sb (M.st r m)) (dst n m : Int) B c = some true) {k : Nat} (hk : 1200010 < k) :
    laws_FnWaysLead.j0 k mo (sb (M.st r n)) (sb (M.st r m)) W ok (dst n m : Int) true x t B c (sb (M.st r (mid n m))) (tml r n m) false = some true := by
  obtain ⟨k, rfl⟩ : ∃ m, k = m + 1 := ⟨k - 1, by omega⟩
  have hp := pow20 h2
  have hdl := dst_lt hn hm
  have f1 := (few_st (k := k) h1 h2 hm hn (by omega)).2
  have f2 := (tm_st (k := k) h1 h2 hm hn (by omega)).2
  have f3 := (few_st (k := k) h1 h2 hn (mid_lt hn hm) (by omega)).2
  have f4 := (few_st (k := k) h1 h2 (mid_lt hn hm) hm (by omega)).2
  rw [dst_comm] at f1
  rw [tml_comm] at f2
  rw [(dst_mid n m).1] at f3
  rw [(dst_mid n m).2] at f4
  have e0 : (((dst n m : Nat) : Int) == 0) = ((sb (M.st r n)).toList == (sb (M.st r m)).toList) := by
    rw [Bool.eq_iff_iff, beq_iff_eq, beq_iff_eq, st_eq hn hm, ← dst_zero]; omega
  have hj := j2_ok h1 h2 hn hm HW HX HJ (k := k) (by omega)
  have hs := ySame_self (l := tml r n m) (k := k) (by rw [tml_length]; omega) (by rw [tml_length]; omega)
  have hu := ySum_tml (k := k) h2 hn hm (by omega)
  have g1 : wrap64 (Int.tdiv ((dst n m : Nat) : Int) 2) = ((dst n m / 2 : Nat) : Int) := by rw [tdiv2 (by omega) (by omega)]; omega
  have G1 := Aside0.mk g1
  clear g1
  have g2 : wrap64 (((dst n m / 2 : Nat) : Int) + ((dst n m - dst n m / 2 : Nat) : Int)) = ((dst n m : Nat) : Int) := by rw [w64 (by omega) (by omega)]; omega
  rw [laws_FnWaysLead.j0, if_neg (by decide), if_pos rfl, f1, f2, f3, f4]
  simp only [Option.bind_some, if_true]
  rw [e0, bne_self_eq_false, if_neg (by decide), hs]
  simp only [Option.bind_some, if_true]
  rw [hu]
  simp only [Option.bind_some, if_true]
  rw [G1.out, if_pos rfl, g2, if_pos rfl]
  exact hj
theorem way_ex {r n m : Nat} (h1 : 1 ≤ r) (h2 : r ≤ 20) (hn : n < 2 ^ r) (hm : m < 2 ^ r) : ∃ W ok, WY n m W ok ∧ W.length ≤ 2000 ∧ decide (((dst n m : Nat) : Int) ≤ 2000) = ok ∧ ∀ k, 3000 < k → spec_WayTo.f k (sb (M.st r n)) (sb (M.st r m)) = some (W, ok) ∧ impl_WayTo.f k (sb (M.st r n)) (sb (M.st r m)) = some (W, ok) := by
  by_cases h : dst n m ≤ 2000
  · exact ⟨_, true, .inl ⟨rfl, h, rfl⟩, by rw [wayL_length]; exact h, decide_eq_true (by omega), fun k hk => way_in h1 h2 hn hm h hk⟩
  · exact ⟨[], false, .inr rfl, by simp, decide_eq_false (by omega), fun k hk => way_out h1 h2 hn hm h hk⟩
theorem bet_ex {r n m : Nat} (h1 : 1 ≤ r) (h2 : r ≤ 20) (hn : n < 2 ^ r) (hm : m < 2 ^ r) : ∃ B c, BT r n m B c ∧ B.length ≤ 2001 ∧ decide (((dst n m : Nat) : Int) < 2000) = c ∧ ∀ k, 3000 < k → spec_StatesBetween.f k (sb (M.st r n)) (sb (M.st r m)) = some (B, c) ∧ impl_StatesBetween.f k (sb (M.st r n)) (sb (M.st r m)) = some (B, c) := by
  by_cases h : dst n m < 2000
  · exact ⟨_, true, .inl ⟨rfl, h, rfl⟩, by rw [List.length_cons, betL_length]; omega, decide_eq_true (by omega), fun k hk => bet_in h1 h2 hn hm h hk⟩
  · exact ⟨[], false, .inr rfl, by simp, decide_eq_false (by omega), fun k hk => bet_out h1 h2 hn hm h hk⟩
theorem nx_ex {r n m : Nat} (h1 : 1 ≤ r) (h2 : r ≤ 20) (hn : n < 2 ^ r) (hm : m < 2 ^ r) : ∃ x t, NX n m x t ∧ ((sb (M.st r n)).toList != (sb (M.st r m)).toList) = t ∧ ∀ k, 90 < k → spec_NextMove.f k (sb (M.st r n)) (sb (M.st r m)) = some (x, t) ∧ impl_NextMove.f k (sb (M.st r n)) (sb (M.st r m)) = some (x, t) := by
  by_cases h : n = m
  · subst h
    exact ⟨0, false, .inr rfl, by rw [bne_self_eq_false], fun k hk => nm_eq h1 h2 hk⟩
  · exact ⟨_, true, .inl ⟨rfl, h, rfl⟩, by rw [bne_iff_ne]; exact fun e => h ((st_eq hn hm).1 e), fun k hk => nm_ne h1 h2 hn hm h hk⟩
theorem bytes_ok {l : List Int} (h : ∀ x ∈ l, (Lit.int .u8 x).wf = true) : ∀ x ∈ l, 0 ≤ x ∧ x ≤ 255 := by
  intro x hx
  have := h x hx
  simpa [Lit.wf, IntKind.min, IntKind.max, IntKind.bits, IntKind.signed] using this
theorem big_val (l0 l1 : List Int) (h0 : l0.length ≤ 140737488351232) (h1 : l1.length ≤ 140737488351232) : ∃ t, laws_big.f l0 l1 = some t ∧ (t = false → l0.length ≤ 1048576 ∧ l1.length ≤ 1048576) := by
  unfold laws_big.f
  by_cases q : (l0.length : Int) > 1048576
  · rw [if_pos q]; exact ⟨true, rfl, fun h => by cases h⟩
  · rw [if_neg q, w64 (by omega) (by omega)]
    refine ⟨_, rfl, fun h => ?_⟩
    have := of_decide_eq_false h
    omega
theorem law_good {r n m : Nat} (h1 : 1 ≤ r) (h2 : r ≤ 20) (hn : n < 2 ^ r) (hm : m < 2 ^ r) {l0 l1 : List Int} (hb0 : laws_big.f l0 l1 = some false) (hmo : RD l1 0) {k : Nat} (hk : 1200020 < k) (hd : spec_DrawWayTo.f k l0 = some (sb (M.st r n), sb (M.st r m))) :
    laws_FnWaysLead.f k l0 l1 = some true := by
  obtain ⟨W, ok, HW, lW, eW, hw⟩ := way_ex h1 h2 hn hm
  obtain ⟨B, c, HB, lB, eB, hb⟩ := bet_ex h1 h2 hn hm
  obtain ⟨x, t, HX, eX, hx⟩ := nx_ex h1 h2 hn hm
  have hw := hw k (by omega)
  have hb := hb k (by omega)
  have hx := hx k (by omega)
  have f1 := few_st (k := k) h1 h2 hn hm (by omega)
  have f2 := tm_st (k := k) h1 h2 hn hm (by omega)
  have f3 := mid_st (k := k) h1 h2 hn hm (by omega)
  have s1 := ySame_self (l := W) (k := k) (by omega) (by omega)
  have s2 := ySame_self (l := tml r n m) (k := k) (by rw [tml_length]; omega) (by rw [tml_length]; omega)
  have s3 := yTexts_self (l := B) (k := k) (by omega) (by omega)
  have hj := j1_ok h1 h2 hn hm HW HX (fun k hk => j6_ok h1 h2 hn hm HB (fun k hk => j9_ok hmo hk) hk) (k := k) (by omega)
  unfold laws_FnWaysLead.f
  rw [hb0, Option.bind_some, if_neg (by decide), hd, Option.bind_some]
  simp only
  rw [hw.1, hw.2, f1.1, f1.2, hx.1, hx.2, hb.1, hb.2, f3.1, f3.2, f2.1, f2.2]
  simp only [Option.bind_some, bne_self_eq_false, Bool.false_eq_true, if_false, if_true, s1, s2, s3, eW, eX, eB]
  exact hj
theorem law_bad {s u : ByteArray} (h : ∀ k, 20 < k → spec_riTwo.f k s u = some false ∧ impl_alike.f s u = some false) {l0 l1 : List Int} (hb0 : laws_big.f l0 l1 = some false) (hmo : RD l1 0) {k : Nat} (hk : 1200020 < k) (hd : spec_DrawWayTo.f k l0 = some (s, u)) :
    laws_FnWaysLead.f k l0 l1 = some true := by
  have h0 := h k (by omega)
  have w1 : spec_WayTo.f k s u = some ([], false) ∧ impl_WayTo.f k s u = some ([], false) := by
    obtain ⟨k, rfl⟩ : ∃ m, k = m + 1 := ⟨k - 1, by omega⟩
    unfold spec_WayTo.f impl_WayTo.f; rw [h0.1, h0.2]; exact ⟨rfl, rfl⟩
  have w2 : spec_FewestMoves.f k s u = some (0, false) ∧ impl_FewestMoves.f k s u = some (0, false) := by
    unfold spec_FewestMoves.f impl_FewestMoves.f; rw [h0.1, h0.2]; exact ⟨rfl, rfl⟩
  have w3 : spec_NextMove.f k s u = some (0, false) ∧ impl_NextMove.f k s u = some (0, false) := by
    obtain ⟨k, rfl⟩ : ∃ m, k = m + 1 := ⟨k - 1, by omega⟩
    unfold spec_NextMove.f impl_NextMove.f; rw [h0.1, h0.2]; exact ⟨rfl, rfl⟩
  have w4 : spec_StatesBetween.f k s u = some ([], false) ∧ impl_StatesBetween.f k s u = some ([], false) := by
    obtain ⟨k, rfl⟩ : ∃ m, k = m + 1 := ⟨k - 1, by omega⟩
    unfold spec_StatesBetween.f impl_StatesBetween.f; rw [h0.1, h0.2]; exact ⟨rfl, rfl⟩
  have w5 : spec_MiddleOf.f k s u = some (⟨#[]⟩, false) ∧ impl_MiddleOf.f k s u = some (⟨#[]⟩, false) := by
    unfold spec_MiddleOf.f impl_MiddleOf.f; rw [h0.1, h0.2]; exact ⟨rfl, rfl⟩
  have w6 : spec_TimesMoved.f k s u = some ([], false) ∧ impl_TimesMoved.f k s u = some ([], false) := by
    unfold spec_TimesMoved.f impl_TimesMoved.f; rw [h0.1, h0.2]; exact ⟨rfl, rfl⟩
  have s1 := ySame_self (l := []) (k := k) (by simp) (by simp; omega)
  have s3 := yTexts_self (l := []) (k := k) (by simp) (by simp; omega)
  unfold laws_FnWaysLead.f
  rw [hb0, Option.bind_some, if_neg (by decide), hd, Option.bind_some]
  simp only
  rw [w1.1, w1.2, w2.1, w2.2, w3.1, w3.2, w4.1, w4.2, w5.1, w5.2, w6.1, w6.2]
  simp only [Option.bind_some, bne_self_eq_false, Bool.false_eq_true, if_false, if_true, s1, s3]
  obtain ⟨k, rfl⟩ : ∃ m, k = m + 1 := ⟨k - 1, by omega⟩
  rw [laws_FnWaysLead.j0, if_neg (by decide), if_neg (by decide)]
  obtain ⟨k, rfl⟩ : ∃ m, k = m + 1 := ⟨k - 1, by omega⟩
  rw [laws_FnWaysLead.j1, if_neg (by decide)]
  obtain ⟨k, rfl⟩ : ∃ m, k = m + 1 := ⟨k - 1, by omega⟩
  rw [laws_FnWaysLead.j5, if_neg (by decide)]
  exact j9_ok hmo (by omega)
theorem law_ok {l0 l1 : List Int} (h0 : RD l0 0) (h1 : RD l1 0) (hb0 : laws_big.f l0 l1 = some false) {k : Nat} (hk : 1200020 < k) : laws_FnWaysLead.f k l0 l1 = some true := by
  obtain ⟨s, u, hs, hu, hd⟩ := dWay h0
  have hd := hd k (by omega)
  rcases twoCases s u (by omega) (by omega) with ⟨a, b, rfl, rfl, ha, hb⟩ | h
  · have la := M.num_lt a
    have lb := M.num_lt b
    have eb := M.st_num b
    rw [hb] at eb
    exact law_good (r := a.length) (n := M.num a) (m := M.num b) ha.1 ha.2 la (by rw [hb] at lb; exact lb) hb0 h1 hk (by rw [M.st_num a, eb]; exact hd)
  · exact law_bad h hb0 h1 hk hd
theorem FnWaysLead : laws_FnWaysLead.Pure := by
  intro l0 l1 _ s0 b0 _ s1 b1
  obtain ⟨t, ht, hb⟩ := big_val l0 l1 (by omega) (by omega)
  obtain ⟨k, hk⟩ : ∃ k : Nat, k = 1200021 := ⟨_, rfl⟩
  refine ⟨k, ?_⟩
  cases t with
  | true =>
    unfold laws_FnWaysLead.f
    rw [ht, Option.bind_some, if_pos rfl]
  | false =>
    have := hb rfl
    exact law_ok (RD.start (bytes_ok b0) this.1) (RD.start (bytes_ok b1) this.2) ht (by omega)

end Go.Proofs.YtddkffdjondjnaaGreatDoor.Pure
