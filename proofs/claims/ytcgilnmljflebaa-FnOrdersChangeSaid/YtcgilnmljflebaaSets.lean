/- What the printed functions of sets, and the law's helpers, give. -/
import Derived.Test.YtcgilnmljflebaaAx1
import Derived.Test.YtcgilnmljflebaaAx13
import Derived.Test.YtcgilnmljflebaaAx2
import Derived.Test.YtcgilnmljflebaaAx3
import Derived.Test.YtcgilnmljflebaaAx5
import Derived.Test.YtcgilnmljflebaaAx6
import Derived.Test.YtcgilnmljflebaaNum
set_option linter.unusedVariables false
set_option linter.unusedSimpArgs false
namespace Go.Proofs.Ytcgilnmljflebaa.Pure
open Go.RowKit Go.Proofs.Ytcgilnmljflebaa.A Go.Proofs.YtcgilnmljflebaaW.PrintWords Go.Proofs.YtcgilnmljflebaaW.PrintLast Go.Proofs.YtcgilnmljflebaaW.PrintMore
theorem unreflected_l0 (d : Nat) : ∀ (k g n : Nat), g < 2 ^ d → d ≤ 62 → n < 2 ^ 62 → d < k → impl_unreflected.l0 k (g : Int) (n : Int) = some ((n ^^^ M.inv g : Nat) : Int) := by
  induction d with
  | zero =>
    intro k g n hg hd hn hk
    obtain ⟨k, rfl⟩ : ∃ m, k = m + 1 := ⟨k - 1, by omega⟩
    have : g = 0 := by simp at hg; omega
    subst this
    simp only [impl_unreflected.l0]
    rw [if_neg (by omega), M.inv_zero, Nat.xor_zero]
  | succ d ih =>
    intro k g n hg hd hn hk
    obtain ⟨k, rfl⟩ : ∃ m, k = m + 1 := ⟨k - 1, by omega⟩
    have hg2 : g < 2 ^ 62 := Nat.lt_of_lt_of_le hg (Nat.pow_le_pow_right (by decide) hd)
    rw [Nat.pow_succ] at hg
    simp only [impl_unreflected.l0]
    by_cases h0 : g = 0
    · subst h0; rw [if_neg (by omega), M.inv_zero, Nat.xor_zero]
    · rw [if_pos (by omega), tdiv2 (by omega) (by omega), xor_nat (by omega) (by omega), show ((g : Int) / 2) = ((g / 2 : Nat) : Int) by omega]
      rw [ih k (g / 2) (n ^^^ g) (by omega) (by omega) (Nat.xor_lt_two_pow hn hg2) (by omega), Nat.xor_assoc, ← M.inv_eq]
theorem unreflected {g k : Nat} (hg : g < 2 ^ 62) (hk : 62 < k) : impl_unreflected.f k (g : Int) = some (M.inv g : Int) := by
  have := unreflected_l0 62 k g 0 hg (by omega) (by decide) hk
  rw [Nat.zero_xor] at this
  exact this
theorem nuBack_l0 (d : Nat) : ∀ (k g n : Nat), g < 2 ^ d → d ≤ 62 → n < 2 ^ 62 → d < k → spec_nuBack.l0 k (g : Int) (n : Int) = some ((n ^^^ M.inv g : Nat) : Int) := by
  induction d with
  | zero =>
    intro k g n hg hd hn hk
    obtain ⟨k, rfl⟩ : ∃ m, k = m + 1 := ⟨k - 1, by omega⟩
    have : g = 0 := by simp at hg; omega
    subst this
    simp only [spec_nuBack.l0]
    rw [if_neg (by omega), M.inv_zero, Nat.xor_zero]
  | succ d ih =>
    intro k g n hg hd hn hk
    obtain ⟨k, rfl⟩ : ∃ m, k = m + 1 := ⟨k - 1, by omega⟩
    have hg2 : g < 2 ^ 62 := Nat.lt_of_lt_of_le hg (Nat.pow_le_pow_right (by decide) hd)
    rw [Nat.pow_succ] at hg
    simp only [spec_nuBack.l0]
    by_cases h0 : g = 0
    · subst h0; rw [if_neg (by omega), M.inv_zero, Nat.xor_zero]
    · rw [if_pos (by omega), xor_nat (by omega) (by omega), show ((g : Int) / 2) = ((g / 2 : Nat) : Int) by omega]
      rw [ih k (g / 2) (n ^^^ g) (by omega) (by omega) (Nat.xor_lt_two_pow hn hg2) (by omega), Nat.xor_assoc, ← M.inv_eq]
theorem nuBack {g k : Nat} (hg : g < 2 ^ 62) (hk : 62 < k) : spec_nuBack.f k (g : Int) = some (M.inv g : Int) := by
  have := nuBack_l0 62 k g 0 hg (by omega) (by decide) hk
  rw [Nat.zero_xor] at this
  exact this
theorem setAt_list (n : Nat) : ∀ (r o : Nat), M.idxs o (M.st r (n / 2 ^ o)) = ((List.range' o r).filter fun i => decide (M.gray n / 2 ^ i % 2 = 1)) := by
  intro r
  induction r with
  | zero => intro o; rfl
  | succ r ih =>
    intro o
    have e : n / 2 ^ o / 2 = n / 2 ^ (o + 1) := (M.div_pow_succ' n o).symm
    have hg : M.gray n / 2 ^ o % 2 = (n / 2 ^ o + n / 2 ^ o / 2) % 2 := by rw [M.gray_divs, M.gray_mod]
    rw [M.st, M.idxs, e, ih (o + 1), List.range'_succ, List.filter_cons]
    rw [hg, e]
/-- the set with a rank, as numbers of Go -/
def setL (r n : Nat) : List Int := (M.idxs 0 (M.st r n)).map Int.ofNat
theorem setL_eq (r n : Nat) : setL r n = ((List.range' 0 r).filter fun i => decide (M.gray n / 2 ^ i % 2 = 1)).map Int.ofNat := by
  have := setAt_list n r 0
  simp only [Nat.pow_zero, Nat.div_one] at this
  rw [setL, this]
theorem setL_length (r n : Nat) : (setL r n).length ≤ r := by
  rw [setL_eq, List.length_map]
  have := List.length_filter_le (fun i => decide (M.gray n / 2 ^ i % 2 = 1)) (List.range' 0 r)
  simpa using this
theorem implSetAt_l0 {r n : Nat} (hr : r ≤ 40) (hn : n < 2 ^ 62) (d : Nat) : ∀ (k i : Nat) (acc : List Int), i + d = r → acc.length ≤ i → d < k →
    impl_SetAt.l0 k (n : Int) acc (r : Int) (i : Int) = some (acc ++ ((List.range' i d).filter fun i => decide (M.gray n / 2 ^ i % 2 = 1)).map Int.ofNat, true) := by
  induction d with
  | zero =>
    intro k i acc hi ha hk
    obtain ⟨k, rfl⟩ : ∃ m, k = m + 1 := ⟨k - 1, by omega⟩
    simp only [impl_SetAt.l0]
    rw [if_neg (by omega)]; simp
  | succ d ih =>
    intro k i acc hi ha hk
    obtain ⟨k, rfl⟩ : ∃ m, k = m + 1 := ⟨k - 1, by omega⟩
    have hgl := M.gray_lt (r := 62) hn
    simp only [impl_SetAt.l0]
    rw [if_pos (by omega), if_pos (by omega), gray_int (by omega), and_shr (by omega) (by omega), w64 (by omega) (by omega), show ((i : Int) + 1) = ((i + 1 : Nat) : Int) by omega]
    rw [List.range'_succ, List.filter_cons]
    generalize M.gray n / 2 ^ i = u
    by_cases q : u % 2 = 1
    · rw [if_pos (by omega), if_pos (by omega), ih k (i + 1) _ (by omega) (by simp; omega) (by omega), if_pos (by simpa using q)]
      simp
    · rw [if_neg (by omega), ih k (i + 1) _ (by omega) (by omega) (by omega), if_neg (by simpa using q)]
theorem specSetAt_l0 {r n : Nat} (hr : r ≤ 40) (hn : n < 2 ^ 62) (d : Nat) : ∀ (k i : Nat) (acc : List Int), i + d = r → acc.length ≤ i → d < k →
    spec_SetAt.l0 k (r : Int) (n : Int) acc (i : Int) = some (acc ++ ((List.range' i d).filter fun i => decide (M.gray n / 2 ^ i % 2 = 1)).map Int.ofNat, true) := by
  induction d with
  | zero =>
    intro k i acc hi ha hk
    obtain ⟨k, rfl⟩ : ∃ m, k = m + 1 := ⟨k - 1, by omega⟩
    simp only [spec_SetAt.l0]
    rw [if_neg (by omega)]; simp
  | succ d ih =>
    intro k i acc hi ha hk
    obtain ⟨k, rfl⟩ : ∃ m, k = m + 1 := ⟨k - 1, by omega⟩
    have hgl := M.gray_lt (r := 62) hn
    simp only [spec_SetAt.l0, spec_nuOf.f, Option.bind_some]
    rw [if_pos (by omega), if_pos (by omega), gray_int' (by omega), and_shr (by omega) (by omega), w64 (by omega) (by omega), show ((i : Int) + 1) = ((i + 1 : Nat) : Int) by omega]
    rw [List.range'_succ, List.filter_cons]
    generalize M.gray n / 2 ^ i = u
    by_cases q : u % 2 = 1
    · rw [if_pos (by omega), if_pos (by omega), ih k (i + 1) _ (by omega) (by simp; omega) (by omega), if_pos (by simpa using q)]
      simp
    · rw [if_neg (by omega), ih k (i + 1) _ (by omega) (by omega) (by omega), if_neg (by simpa using q)]
theorem implSetAt {r n k : Nat} (hr : 1 ≤ r ∧ r ≤ 20) (hn : n < 2 ^ r) (hk : 50 < k) : impl_SetAt.f k (r : Int) (n : Int) = some (setL r n, true) := by
  have hp : 2 ^ r ≤ 2 ^ 20 := Nat.pow_le_pow_right (by decide) hr.2
  have hpos := Nat.two_pow_pos r
  have e : wrap64 (shl .i64 1 (r : Int) - 1) = ((2 ^ r - 1 : Nat) : Int) := by rw [shl_one (by omega), w64 (by omega) (by omega)]; omega
  obtain ⟨k, rfl⟩ : ∃ m, k = m + 1 := ⟨k - 1, by omega⟩
  have h := implSetAt_l0 (r := r) (n := n) (by omega) (by omega) r k 0 [] (by omega) (by simp) (by omega)
  rw [List.nil_append, ← setL_eq] at h
  have h1 : (r : Int) ≥ 1 := by omega
  have h2 : (r : Int) ≤ 20 := by omega
  have h3 : (0 : Int) ≤ r := by omega
  have h4 : (n : Int) ≥ 0 := by omega
  have h5 : (n : Int) ≤ ((2 ^ r - 1 : Nat) : Int) := by omega
  unfold impl_SetAt.f impl_isSize.f impl_in.f
  simp only [impl_SetAt.j0, e]
  simp only [h1, h2, h3, h4, h5, if_true, decide_true, Option.bind_some, Bool.not_true, Bool.false_eq_true, if_false]
  exact h
theorem specSetAt {r n k : Nat} (hr : 1 ≤ r ∧ r ≤ 20) (hn : n < 2 ^ r) (hk : 50 < k) : spec_SetAt.f k (r : Int) (n : Int) = some (setL r n, true) := by
  have hp : 2 ^ r ≤ 2 ^ 20 := Nat.pow_le_pow_right (by decide) hr.2
  have hpos := Nat.two_pow_pos r
  have e : wrap64 (shl .i64 1 (r : Int) - 1) = ((2 ^ r - 1 : Nat) : Int) := by rw [shl_one (by omega), w64 (by omega) (by omega)]; omega
  obtain ⟨k, rfl⟩ : ∃ m, k = m + 1 := ⟨k - 1, by omega⟩
  have h := specSetAt_l0 (r := r) (n := n) (by omega) (by omega) r k 0 [] (by omega) (by simp) (by omega)
  rw [List.nil_append, ← setL_eq] at h
  have h1 : (r : Int) ≥ 1 := by omega
  have h2 : (r : Int) ≤ 20 := by omega
  have h3 : (0 : Int) ≤ r := by omega
  have h4 : (n : Int) ≥ 0 := by omega
  have h5 : (n : Int) ≤ ((2 ^ r - 1 : Nat) : Int) := by omega
  unfold spec_SetAt.f spec_nuSize.f spec_l1In.f
  simp only [spec_SetAt.j0, e]
  simp only [h1, h2, h3, h4, h5, if_true, decide_true, Option.bind_some, Bool.not_true, Bool.false_eq_true, if_false]
  exact h
theorem setAt_no {a0 a1 : Int} {k : Nat} (h : ¬ ∃ r n : Nat, a0 = r ∧ a1 = n ∧ (1 ≤ r ∧ r ≤ 20) ∧ n < 2 ^ r) (hk : 1 < k) : impl_SetAt.f k a0 a1 = some ([], false) ∧ spec_SetAt.f k a0 a1 = some ([], false) := by
  obtain ⟨k, rfl⟩ : ∃ m, k = m + 1 := ⟨k - 1, by omega⟩
  unfold spec_SetAt.f spec_nuSize.f spec_l1In.f impl_SetAt.f impl_isSize.f impl_in.f
  simp only [impl_SetAt.j0, spec_SetAt.j0]
  by_cases h1 : a0 ≥ 1
  · by_cases h2 : a0 ≤ 20
    · obtain ⟨r, rfl⟩ := Int.eq_ofNat_of_zero_le (show 0 ≤ a0 by omega)
      have hp : 2 ^ r ≤ 2 ^ 20 := Nat.pow_le_pow_right (by decide) (by omega)
      have hpos := Nat.two_pow_pos r
      have e : wrap64 (shl .i64 1 (r : Int) - 1) = ((2 ^ r - 1 : Nat) : Int) := by rw [shl_one (by omega), w64 (by omega) (by omega)]; omega
      have h3 : (0 : Int) ≤ r := by omega
      rw [e]
      by_cases h4 : a1 ≥ 0
      · by_cases h5 : a1 ≤ ((2 ^ r - 1 : Nat) : Int)
        · obtain ⟨n, rfl⟩ := Int.eq_ofNat_of_zero_le (show 0 ≤ a1 by omega)
          exact absurd ⟨r, n, rfl, rfl, ⟨by omega, by omega⟩, by omega⟩ h
        · simp [h1, h2, h3, h4, h5]
      · simp [h1, h2, h3, h4]
    · simp [h1, h2]
  · simp [h1]
def rise (hi : Int) : Int → List Int → Bool
  | _, [] => true
  | p, x :: r => decide (0 ≤ x ∧ x ≤ hi ∧ p < x) && rise hi x r
theorem rise_l0 {l : List Int} {hi : Int} (hl : l.length ≤ 2000000) (r : List Int) : ∀ (k i : Nat) (p : Int), l.drop i = r → r.length < k → (if i = 0 then p = -1 else l[i - 1]? = some p) →
    spec_l1Rising.l0 k l 0 hi l (l.length : Int) (i : Int) = some (rise hi p r) := by
  induction r with
  | nil =>
    intro k i p hd hk hp
    obtain ⟨k, rfl⟩ : ∃ m, k = m + 1 := ⟨k - 1, by omega⟩
    have : l.length ≤ i := List.drop_eq_nil_iff.1 hd
    simp only [spec_l1Rising.l0]
    rw [if_neg (by omega)]; rfl
  | cons x r ih =>
    intro k i p hd hk hp
    obtain ⟨k, rfl⟩ : ∃ m, k = m + 1 := ⟨k - 1, by omega⟩
    obtain ⟨h2, h3, h4⟩ := getElem?_drop_cons hd
    have hk' : r.length < k := by simp at hk; omega
    have h := ih k (i + 1) x h3 hk' (by rw [if_neg (by omega)]; exact h2)
    simp only [spec_l1Rising.l0, spec_l1In.f]
    rw [if_pos (by omega), if_pos (by omega), if_pos (by omega), rd_nat h2, w64 (x := (i : Int) + 1) (by omega) (by omega), show ((i : Int) + 1) = ((i + 1 : Nat) : Int) by omega, h]
    by_cases q0 : x ≥ 0
    · by_cases q1 : x ≤ hi
      · by_cases q2 : i = 0
        · subst q2
          rw [if_pos rfl] at hp
          have hp' : p < x := by omega
          rw [if_pos q0]
          simp [rise, q0, q1, hp']
        · rw [if_neg q2] at hp
          rw [if_pos q0]
          have e : wrap64 ((i : Int) - 1) = ((i - 1 : Nat) : Int) := by rw [w64 (by omega) (by omega)]; omega
          rw [e, rd_nat hp]
          have g1 : ((i - 1 : Nat) : Int) < (l.length : Int) := by omega
          have g2 : (i : Int) > 0 := by omega
          have g3 : (0 : Int) ≤ ((i - 1 : Nat) : Int) := by omega
          by_cases q3 : p < x
          · have : ¬ p ≥ x := by omega
            simp only [q1, decide_true, Option.bind_some, if_true, g2, g3, g1, this, if_false]
            simp [rise, q0, q1, q3]
          · have : p ≥ x := by omega
            simp only [q1, decide_true, Option.bind_some, if_true, g2, g3, g1, this]
            simp [rise, q3]
      · rw [if_pos q0]
        simp [rise, q1]
    · rw [if_neg q0]
      simp [rise, q0]
theorem l1Rising {l : List Int} {hi : Int} {k : Nat} (hl : l.length ≤ 2000000) (hk : l.length < k) : spec_l1Rising.f k l 0 hi = some (rise hi (-1) l) := by
  unfold spec_l1Rising.f
  have := rise_l0 (hi := hi) hl l k 0 (-1) (by simp) hk (by simp)
  simpa using this
theorem isSet_eq (a0 : Int) (l m : List Int) (n : Int) : ∀ (k : Nat) (i : Int), impl_isSet.l0 k a0 l m n i = spec_l1Rising.l0 k l 0 (wrap64 (a0 - 1)) m n i := by
  intro k
  induction k with
  | zero => intro i; rfl
  | succ k ih =>
    intro i
    simp only [impl_isSet.l0, spec_l1Rising.l0, ih, impl_in.f, spec_l1In.f]
theorem isSet {l : List Int} {a0 : Int} {k : Nat} (hl : l.length ≤ 2000000) (hk : l.length < k) : impl_isSet.f k a0 l = some (rise (wrap64 (a0 - 1)) (-1) l) := by
  rw [← l1Rising hl hk]
  unfold impl_isSet.f spec_l1Rising.f
  exact isSet_eq _ _ _ _ _ _
theorem rise_nat {hi : Int} : ∀ {l : List Int} {p : Int}, -1 ≤ p → rise hi p l = true → ∃ ns : List Nat, l = ns.map Int.ofNat ∧ ns.Pairwise (· < ·) ∧ ∀ x ∈ ns, p < (x : Int) ∧ (x : Int) ≤ hi
  | [], p, _, _ => ⟨[], rfl, .nil, by simp⟩
  | x :: r, p, hp, h => by
    simp only [rise, Bool.and_eq_true, decide_eq_true_eq] at h
    obtain ⟨⟨h1, h2, h3⟩, h4⟩ := h
    obtain ⟨ns, rfl, h5, h6⟩ := rise_nat (p := x) (by omega) h4
    obtain ⟨y, rfl⟩ := Int.eq_ofNat_of_zero_le h1
    refine ⟨y :: ns, rfl, List.pairwise_cons.2 ⟨fun z hz => by have := (h6 z hz).1; omega, h5⟩, ?_⟩
    intro z hz
    rcases List.mem_cons.1 hz with rfl | hz
    · exact ⟨h3, h2⟩
    · have := h6 z hz; omega
theorem nat_rise {hi : Int} : ∀ {ns : List Nat} {p : Int}, ns.Pairwise (· < ·) → (∀ x ∈ ns, p < (x : Int) ∧ (x : Int) ≤ hi) → rise hi p (ns.map Int.ofNat) = true
  | [], p, _, _ => rfl
  | x :: r, p, hp, h => by
    obtain ⟨h1, h2⟩ := List.pairwise_cons.1 hp
    have hx := h x (by simp)
    simp only [List.map_cons, rise, Bool.and_eq_true, decide_eq_true_eq]
    refine ⟨⟨by simp, hx.2, hx.1⟩, nat_rise h2 (fun z hz => ⟨?_, (h z (by simp [hz])).2⟩)⟩
    have := h1 z hz
    simp; omega
/-- a set or choice of numbers less than s -/
def Asc (s : Nat) (ns : List Nat) : Prop := ns.Pairwise (· < ·) ∧ ∀ x ∈ ns, x < s
theorem rise_asc {s : Nat} {l : List Int} (h : rise ((s : Int) - 1) (-1) l = true) : ∃ ns : List Nat, l = ns.map Int.ofNat ∧ Asc s ns := by
  obtain ⟨ns, h1, h2, h3⟩ := rise_nat (by omega) h
  exact ⟨ns, h1, h2, fun x hx => by have := h3 x hx; omega⟩
theorem asc_rise {s : Nat} {ns : List Nat} (h : Asc s ns) : rise ((s : Int) - 1) (-1) (ns.map Int.ofNat) = true :=
  nat_rise h.1 (fun x hx => by have := h.2 x hx; omega)
theorem asc_length {s : Nat} {ns : List Nat} (h : Asc s ns) : ns.length ≤ s := by
  obtain ⟨bs, h1, h2⟩ := M.idxs_of (s := s) (o := 0) h.1 (fun x hx => ⟨by omega, by have := h.2 x hx; omega⟩)
  have : ∀ (bs : List Bool) (o : Nat), (M.idxs o bs).length ≤ bs.length := by
    intro bs
    induction bs with
    | nil => intro o; simp [M.idxs]
    | cons b r ih => intro o; rw [M.idxs]; have := ih (o + 1); split <;> simp <;> omega
  have := this bs 0
  rw [h2] at this; omega
theorem p2sum_lt {s : Nat} {ns : List Nat} (h : Asc s ns) : M.p2sum ns < 2 ^ s := by
  obtain ⟨bs, h1, h2⟩ := M.idxs_of (s := s) (o := 0) h.1 (fun x hx => ⟨by omega, by have := h.2 x hx; omega⟩)
  have := M.p2sum_idxs 0 bs
  rw [h2, Nat.pow_zero, Nat.one_mul] at this
  rw [this, ← h1]; exact M.val_lt bs
theorem getElem?_map_ofNat {ns : List Nat} {i : Nat} : (ns.map Int.ofNat)[i]? = (ns[i]?).map Int.ofNat := List.getElem?_map
theorem specRankOfSet_l0 {ns : List Nat} (hl : ns.length ≤ 20) (hall : ∀ x ∈ ns, x < 20) (r : List Nat) : ∀ (k i g : Nat), ns.drop i = r → r.length + 64 < k → g + M.p2sum r < 2 ^ 60 →
    spec_RankOfSet.l0 k (g : Int) (ns.map Int.ofNat) (ns.length : Int) (i : Int) = some ((M.inv (g + M.p2sum r) : Int), true) := by
  induction r with
  | nil =>
    intro k i g hd hk hg
    obtain ⟨k, rfl⟩ : ∃ m, k = m + 1 := ⟨k - 1, by omega⟩
    have : ns.length ≤ i := List.drop_eq_nil_iff.1 hd
    simp only [M.p2sum, Nat.add_zero] at hg ⊢
    simp only [spec_RankOfSet.l0]
    rw [if_neg (by omega), nuBack (by omega) (by simp at hk; omega)]; rfl
  | cons x r ih =>
    intro k i g hd hk hg
    obtain ⟨k, rfl⟩ : ∃ m, k = m + 1 := ⟨k - 1, by omega⟩
    obtain ⟨h2, h3, h4⟩ := getElem?_drop_cons hd
    have hx : x < 20 := hall x (List.mem_of_getElem? h2)
    have h2' : (ns.map Int.ofNat)[i]? = some (x : Int) := by rw [getElem?_map_ofNat, h2]; rfl
    have hp : 2 ^ x ≤ 2 ^ 20 := Nat.pow_le_pow_right (by decide) (by omega)
    have hpos := Nat.two_pow_pos x
    simp only [M.p2sum] at hg ⊢
    simp only [spec_RankOfSet.l0, List.length_map]
    rw [if_pos (by omega), if_pos (by omega), if_pos (by omega), rd_nat h2', if_pos (by omega), shl_one (by omega), w64 (by omega) (by omega), w64 (by omega) (by omega)]
    rw [show ((i : Int) + 1) = ((i + 1 : Nat) : Int) by omega, show ((g : Int) + ((2 ^ x : Nat) : Int)) = ((g + 2 ^ x : Nat) : Int) by omega]
    rw [ih k (i + 1) (g + 2 ^ x) h3 (by simp at hk; omega) (by omega), Nat.add_assoc]
theorem implRankOfSet_l0 {ns : List Nat} (hl : ns.length ≤ 20) (hall : ∀ x ∈ ns, x < 20) (r : List Nat) : ∀ (k i g : Nat), ns.drop i = r → r.length + 64 < k → r.Pairwise (· < ·) → (∀ x ∈ r, g < 2 ^ x) → g + M.p2sum r < 2 ^ 60 →
    impl_RankOfSet.l0 k (g : Int) (ns.map Int.ofNat) (ns.length : Int) (i : Int) = some ((M.inv (g + M.p2sum r) : Int), true) := by
  induction r with
  | nil =>
    intro k i g hd hk _ _ hg
    obtain ⟨k, rfl⟩ : ∃ m, k = m + 1 := ⟨k - 1, by omega⟩
    have : ns.length ≤ i := List.drop_eq_nil_iff.1 hd
    simp only [M.p2sum, Nat.add_zero] at hg ⊢
    simp only [impl_RankOfSet.l0]
    rw [if_neg (by omega), unreflected (by omega) (by simp at hk; omega)]; rfl
  | cons x r ih =>
    intro k i g hd hk hp hlt hg
    obtain ⟨k, rfl⟩ : ∃ m, k = m + 1 := ⟨k - 1, by omega⟩
    obtain ⟨h2, h3, h4⟩ := getElem?_drop_cons hd
    obtain ⟨hp1, hp2⟩ := List.pairwise_cons.1 hp
    have hx : x < 20 := hall x (List.mem_of_getElem? h2)
    have h2' : (ns.map Int.ofNat)[i]? = some (x : Int) := by rw [getElem?_map_ofNat, h2]; rfl
    have hpw : 2 ^ x ≤ 2 ^ 20 := Nat.pow_le_pow_right (by decide) (by omega)
    have hpos := Nat.two_pow_pos x
    have hgx := hlt x (by simp)
    have hor : g ||| 2 ^ x = g + 2 ^ x := by
      have := Nat.two_pow_add_eq_or_of_lt hgx 1
      rw [Nat.mul_one] at this
      rw [Nat.or_comm, ← this, Nat.add_comm]
    simp only [M.p2sum] at hg ⊢
    simp only [impl_RankOfSet.l0, List.length_map]
    rw [if_pos (by omega), if_pos (by omega), if_pos (by omega), rd_nat h2', if_pos (by omega), shl_one (by omega), or_nat (by omega) (by omega), hor, w64 (by omega) (by omega)]
    rw [show ((i : Int) + 1) = ((i + 1 : Nat) : Int) by omega]
    rw [ih k (i + 1) (g + 2 ^ x) h3 (by simp at hk; omega) hp2 (fun y hy => ?_) (by omega), Nat.add_assoc]
    have := hp1 y hy
    have h5 : 2 ^ (x + 1) ≤ 2 ^ y := Nat.pow_le_pow_right (by decide) this
    rw [Nat.pow_succ] at h5; omega
/-- RankOfSet of a set -/
theorem rankOfSet {s : Nat} {ns : List Nat} {k : Nat} (hs : 1 ≤ s ∧ s ≤ 20) (h : Asc s ns) (hk : 100 < k) :
    impl_RankOfSet.f k (s : Int) (ns.map Int.ofNat) = some ((M.inv (M.p2sum ns) : Int), true) ∧ spec_RankOfSet.f k (s : Int) (ns.map Int.ofNat) = some ((M.inv (M.p2sum ns) : Int), true) := by
  have hl := asc_length h
  have hp := p2sum_lt h
  have hpw : 2 ^ s ≤ 2 ^ 20 := Nat.pow_le_pow_right (by decide) hs.2
  have hall : ∀ x ∈ ns, x < 20 := fun x hx => by have := h.2 x hx; omega
  have hr := asc_rise h
  have e : wrap64 ((s : Int) - 1) = (s : Int) - 1 := w64 (by omega) (by omega)
  have h1 : (s : Int) ≥ 1 := by omega
  have h2 : (s : Int) ≤ 20 := by omega
  obtain ⟨k, rfl⟩ : ∃ m, k = m + 1 := ⟨k - 1, by omega⟩
  constructor
  · unfold impl_RankOfSet.f impl_isSize.f impl_in.f
    rw [isSet (by simp; omega) (by simp; omega), e, hr]
    simp only [h1, h2, if_true, decide_true, Option.bind_some, Bool.not_true, impl_RankOfSet.j0, Bool.false_eq_true, if_false, List.length_map]
    have := implRankOfSet_l0 (by omega) hall ns k 0 0 (by simp) (by omega) h.1 (fun x _ => Nat.two_pow_pos x) (by omega)
    simpa using this
  · unfold spec_RankOfSet.f spec_nuSize.f spec_l1In.f
    rw [l1Rising (by simp; omega) (by simp; omega), e, hr]
    simp only [h1, h2, if_true, decide_true, Option.bind_some, Bool.not_true, spec_RankOfSet.j0, Bool.false_eq_true, if_false, List.length_map]
    have := specRankOfSet_l0 (by omega) hall ns k 0 0 (by simp) (by omega) (by omega)
    simpa using this
theorem rankOfSet_no {a0 : Int} {l : List Int} {k : Nat} (hl : l.length ≤ 2000000) (h : ¬ ∃ (s : Nat) (ns : List Nat), a0 = s ∧ l = ns.map Int.ofNat ∧ (1 ≤ s ∧ s ≤ 20) ∧ Asc s ns) (hk : l.length + 1 < k) :
    impl_RankOfSet.f k a0 l = some (0, false) ∧ spec_RankOfSet.f k a0 l = some (0, false) := by
  obtain ⟨k, rfl⟩ : ∃ m, k = m + 1 := ⟨k - 1, by omega⟩
  unfold impl_RankOfSet.f impl_isSize.f impl_in.f spec_RankOfSet.f spec_nuSize.f spec_l1In.f
  rw [isSet hl (by omega), l1Rising hl (by omega)]
  simp only [impl_RankOfSet.j0, spec_RankOfSet.j0]
  by_cases h1 : a0 ≥ 1
  · by_cases h2 : a0 ≤ 20
    · obtain ⟨s, rfl⟩ := Int.eq_ofNat_of_zero_le (show 0 ≤ a0 by omega)
      rw [w64 (by omega) (by omega)]
      cases hr : rise ((s : Int) - 1) (-1) l with
      | false => simp [h1, h2]
      | true =>
        obtain ⟨ns, h3, h4⟩ := rise_asc hr
        exact absurd ⟨s, ns, rfl, h3, ⟨by omega, by omega⟩, h4⟩ h
    · simp [h1, h2]
  · simp [h1]
theorem xSame_l0 {l : List Int} (hl : l.length ≤ 2000000) (d : Nat) : ∀ (k i : Nat), i + d = l.length → d < k → laws_xSame.l0 k l l (l.length : Int) (i : Int) = some true := by
  induction d with
  | zero =>
    intro k i hi hk
    obtain ⟨k, rfl⟩ : ∃ m, k = m + 1 := ⟨k - 1, by omega⟩
    rw [laws_xSame.l0, if_neg (by omega)]
  | succ d ih =>
    intro k i hi hk
    obtain ⟨k, rfl⟩ : ∃ m, k = m + 1 := ⟨k - 1, by omega⟩
    rw [laws_xSame.l0, if_pos (by omega), if_pos (by omega), if_pos (by omega), if_pos (by omega), if_pos rfl, w64 (by omega) (by omega), show ((i : Int) + 1) = ((i + 1 : Nat) : Int) by omega]
    exact ih k (i + 1) (by omega) (by omega)
theorem xSame_self {l : List Int} {k : Nat} (hl : l.length ≤ 2000000) (hk : l.length < k) : laws_xSame.f k l l = some true := by
  unfold laws_xSame.f
  rw [if_pos rfl]
  exact xSame_l0 hl l.length k 0 (by omega) (by omega)
theorem rdm {ns : List Nat} {i : Nat} (h : i < ns.length) : rd (ns.map Int.ofNat) (i : Int) = (ns[i] : Int) := rd_nat (by rw [List.getElem?_map, List.getElem?_eq_getElem h]; rfl)
theorem xRises_l0 {ns : List Nat} (hl : ns.length ≤ 2000000) (h : ns.Pairwise (· < ·)) (d : Nat) : ∀ (k i : Nat), ns.length ≤ i + 1 + d → d < k → laws_xRises.l0 k (ns.map Int.ofNat) ((i + 1 : Nat) : Int) = some true := by
  induction d with
  | zero =>
    intro k i hi hk
    obtain ⟨k, rfl⟩ : ∃ m, k = m + 1 := ⟨k - 1, by omega⟩
    rw [laws_xRises.l0, if_neg (by rw [List.length_map]; omega)]
  | succ d ih =>
    intro k i hi hk
    obtain ⟨k, rfl⟩ : ∃ m, k = m + 1 := ⟨k - 1, by omega⟩
    rw [laws_xRises.l0]
    by_cases q : i + 1 < ns.length
    · have e1 : Aside0 (wrap64 (((i + 1 : Nat) : Int) - 1) = (i : Int)) := ⟨by rw [w64 (by omega) (by omega)]; omega⟩
      have e2 : Aside0 (wrap64 (((i + 1 : Nat) : Int) + 1) = ((i + 1 + 1 : Nat) : Int)) := ⟨by rw [w64 (by omega) (by omega)]; omega⟩
      have hlt := List.pairwise_iff_getElem.1 h i (i + 1) (by omega) q (by omega)
      have c1 : ((i + 1 : Nat) : Int) < ((ns.map Int.ofNat).length : Int) := by rw [List.length_map]; omega
      have c2 : (0 : Int) ≤ (i : Int) := by omega
      have c3 : (i : Int) < ((ns.map Int.ofNat).length : Int) := by rw [List.length_map]; omega
      have c4 : (0 : Int) ≤ ((i + 1 : Nat) : Int) := by omega
      have c5 : ¬ ((ns[i] : Nat) : Int) ≥ ((ns[i + 1] : Nat) : Int) := by omega
      rw [if_pos c1, e1.out, if_pos c2, if_pos c3, if_pos c4, rdm (by omega), rdm q, if_neg c5, e2.out]
      exact ih k (i + 1) (by omega) (by omega)
    · rw [if_neg (by rw [List.length_map]; omega)]
theorem xRises {ns : List Nat} {k : Nat} (hl : ns.length ≤ 2000000) (h : ns.Pairwise (· < ·)) (hk : ns.length < k) : laws_xRises.f k (ns.map Int.ofNat) = some true := xRises_l0 hl h ns.length k 0 (by omega) hk
theorem xHas_l0 {l : List Int} {x : Int} (hl : l.length ≤ 2000000) (r : List Int) : ∀ (k i : Nat), l.drop i = r → r.length < k →
    laws_xHas.l0 k x l (l.length : Int) (i : Int) = some (decide (x ∈ r)) := by
  induction r with
  | nil =>
    intro k i hd hk
    obtain ⟨k, rfl⟩ : ∃ m, k = m + 1 := ⟨k - 1, by omega⟩
    have : l.length ≤ i := List.drop_eq_nil_iff.1 hd
    simp only [laws_xHas.l0]
    rw [if_neg (by omega)]; simp
  | cons y r ih =>
    intro k i hd hk
    obtain ⟨k, rfl⟩ : ∃ m, k = m + 1 := ⟨k - 1, by omega⟩
    obtain ⟨h2, h3, h4⟩ := getElem?_drop_cons hd
    simp only [laws_xHas.l0]
    rw [if_pos (by omega), if_pos (by omega), if_pos (by omega), rd_nat h2]
    by_cases e : y = x
    · subst e
      rw [if_pos rfl]; simp
    · have e' : ¬ x = y := fun z => e z.symm
      rw [if_neg e, w64 (by omega) (by omega), show ((i : Int) + 1) = ((i + 1 : Nat) : Int) by omega, ih k (i + 1) h3 (by simp at hk; omega)]
      simp [e']
theorem xHas {l : List Int} {x : Int} {k : Nat} (hl : l.length ≤ 2000000) (hk : l.length < k) : laws_xHas.f k l x = some (decide (x ∈ l)) := by
  unfold laws_xHas.f
  exact xHas_l0 hl l k 0 (by simp) hk
theorem mem_ofNat {x : Nat} {ms : List Nat} : ((x : Nat) : Int) ∈ ms.map Int.ofNat ↔ x ∈ ms := by
  rw [List.mem_map]
  constructor
  · rintro ⟨y, hy, e⟩
    have : y = x := Int.ofNat.inj e
    rwa [← this]
  · exact fun h => ⟨x, h, rfl⟩
theorem xCommon_l0 {ns ms : List Nat} (h1 : ns.length ≤ 1000000) (h2 : ms.length ≤ 1000000) (r : List Nat) : ∀ (k i c : Nat), ns.drop i = r → c ≤ i → r.length + ms.length + 1 < k →
    laws_xCommon.l0 k (ms.map Int.ofNat) (c : Int) (ns.map Int.ofNat) (ns.length : Int) (i : Int) = some ((c + M.com r ms : Nat) : Int) := by
  induction r with
  | nil =>
    intro k i c hd hc hk
    obtain ⟨k, rfl⟩ : ∃ m, k = m + 1 := ⟨k - 1, by omega⟩
    have : ns.length ≤ i := List.drop_eq_nil_iff.1 hd
    rw [laws_xCommon.l0, if_neg (by omega)]; rfl
  | cons x r ih =>
    intro k i c hd hc hk
    obtain ⟨k, rfl⟩ : ∃ m, k = m + 1 := ⟨k - 1, by omega⟩
    obtain ⟨g2, g3, g4⟩ := getElem?_drop_cons hd
    have hr : rd (ns.map Int.ofNat) (i : Int) = (x : Int) := rd_nat (by rw [List.getElem?_map, g2]; rfl)
    simp only [List.length_cons] at hk
    rw [laws_xCommon.l0, if_pos (by omega), if_pos (by omega), if_pos (by rw [List.length_map]; omega), hr, xHas (by rw [List.length_map]; omega) (by rw [List.length_map]; omega), Option.bind_some, w64 (x := (i : Int) + 1) (by omega) (by omega), show ((i : Int) + 1) = ((i + 1 : Nat) : Int) by omega]
    by_cases q : x ∈ ms
    · have e : M.com (x :: r) ms = M.com r ms + 1 := by unfold M.com; rw [List.filter_cons, if_pos (by simpa using q)]; rfl
      rw [if_pos (decide_eq_true (mem_ofNat.2 q)), w64 (x := (c : Int) + 1) (by omega) (by omega), show ((c : Int) + 1) = ((c + 1 : Nat) : Int) by omega, ih k (i + 1) (c + 1) g3 (by omega) (by omega), e, show c + 1 + M.com r ms = c + (M.com r ms + 1) by omega]
    · have e : M.com (x :: r) ms = M.com r ms := by unfold M.com; rw [List.filter_cons, if_neg (by simpa using q)]
      rw [if_neg (by simpa using fun h => q (mem_ofNat.1 h)), ih k (i + 1) c g3 (by omega) (by omega), e]
theorem xCommon {ns ms : List Nat} {k : Nat} (h1 : ns.length ≤ 1000000) (h2 : ms.length ≤ 1000000) (hk : ns.length + ms.length + 1 < k) : laws_xCommon.f k (ns.map Int.ofNat) (ms.map Int.ofNat) = some (M.com ns ms : Int) := by
  have := xCommon_l0 h1 h2 ns k 0 0 rfl (by omega) hk
  rw [Nat.zero_add] at this
  unfold laws_xCommon.f
  rw [List.length_map]
  exact this
theorem xParts_l0 {a b : List Nat} (hl : a.length = b.length) (h1 : a.length ≤ 1000000) (r : List Nat) : ∀ (s : List Nat) (k i c : Nat), a.drop i = r → b.drop i = s → c ≤ i → r.length < k →
    laws_xParts.l0 k (a.map Int.ofNat) (b.map Int.ofNat) (c : Int) (a.length : Int) (i : Int) = some ((c + M.dif r s : Nat) : Int) := by
  induction r with
  | nil =>
    intro s k i c hd hs hc hk
    obtain ⟨k, rfl⟩ : ∃ m, k = m + 1 := ⟨k - 1, by omega⟩
    have : a.length ≤ i := List.drop_eq_nil_iff.1 hd
    rw [laws_xParts.l0, if_neg (by omega)]
    cases s <;> rfl
  | cons x r ih =>
    intro s k i c hd hs hc hk
    obtain ⟨k, rfl⟩ : ∃ m, k = m + 1 := ⟨k - 1, by omega⟩
    obtain ⟨g2, g3, g4⟩ := getElem?_drop_cons hd
    cases s with
    | nil =>
      have : b.length ≤ i := List.drop_eq_nil_iff.1 hs
      omega
    | cons y s =>
      obtain ⟨f2, f3, f4⟩ := getElem?_drop_cons hs
      have ha : rd (a.map Int.ofNat) (i : Int) = (x : Int) := rd_nat (by rw [List.getElem?_map, g2]; rfl)
      have hb : rd (b.map Int.ofNat) (i : Int) = (y : Int) := rd_nat (by rw [List.getElem?_map, f2]; rfl)
      simp only [List.length_cons] at hk
      rw [laws_xParts.l0, if_pos (by omega), if_pos (by omega), if_pos (by rw [List.length_map]; omega), if_pos (by rw [List.length_map]; omega), ha, hb, w64 (x := (i : Int) + 1) (by omega) (by omega), show ((i : Int) + 1) = ((i + 1 : Nat) : Int) by omega]
      by_cases q : x = y
      · rw [if_pos (by rw [q]), ih s k (i + 1) c g3 f3 (by omega) (by omega), M.dif, if_pos q, Nat.zero_add]
      · rw [if_neg (by omega), w64 (x := (c : Int) + 1) (by omega) (by omega), show ((c : Int) + 1) = ((c + 1 : Nat) : Int) by omega, ih s k (i + 1) (c + 1) g3 f3 (by omega) (by omega), M.dif, if_neg q, show c + 1 + M.dif r s = c + (1 + M.dif r s) by omega]
theorem xParts {a b : List Nat} {k : Nat} (hl : a.length = b.length) (h1 : a.length ≤ 1000000) (hk : a.length < k) : laws_xParts.f k (a.map Int.ofNat) (b.map Int.ofNat) = some (M.dif a b : Int) := by
  have := xParts_l0 hl h1 a b k 0 0 rfl rfl (by omega) hk
  rw [Nat.zero_add] at this
  unfold laws_xParts.f
  rw [List.length_map]
  exact this
end Go.Proofs.Ytcgilnmljflebaa.Pure
