/- What the printed functions of sets give. -/
import Derived.Test.YtomaodhlcacobaaAx1
import Derived.Test.YtomaodhlcacobaaAx11
import Derived.Test.YtomaodhlcacobaaAx9
import Derived.Test.YtomaodhlcacobaaM2
import Derived.Test.YtomaodhlcacobaaUnrefl
set_option linter.unusedVariables false
set_option linter.unusedSimpArgs false
namespace Go.Proofs.Ytomaodhlcacobaa.Pure
open Go.RowKit Go.Proofs.Ytomaodhlcacobaa.A Go.Proofs.YtomaodhlcacobaaW.PrintWords Go.Proofs.YtomaodhlcacobaaW.PrintLast Go.Proofs.YtomaodhlcacobaaW.PrintMore

theorem setAt_list (n : Nat) : ∀ (r o : Nat), M.idxs o (M.st r (n / 2 ^ o)) = ((List.range' o r).filter fun i => decide (M.gray n / 2 ^ i % 2 = 1)) := by
  intro r
  induction r with
  | zero => intro o; rfl
  | succ r ih =>
    intro o
    have e : n / 2 ^ o / 2 = n / 2 ^ (o + 1) := (M.div_pow_succ' n o).symm
    have hg : M.gray n / 2 ^ o % 2 = (n / 2 ^ o + n / 2 ^ o / 2) % 2 := by rw [M.gray_divs, M.gray_mod]
    rw [M.st, M.idxs, e, ih (o + 1), List.range'_succ, List.filter_cons]
    rw [hg, e]
/-- the set with a rank, as numbers of Go -/
def setL (r n : Nat) : List Int := (M.idxs 0 (M.st r n)).map Int.ofNat
theorem setL_eq (r n : Nat) : setL r n = ((List.range' 0 r).filter fun i => decide (M.gray n / 2 ^ i % 2 = 1)).map Int.ofNat := by
  have := setAt_list n r 0
  simp only [Nat.pow_zero, Nat.div_one] at this
  rw [setL, this]
theorem setL_length (r n : Nat) : (setL r n).length ≤ r := by
  rw [setL_eq, List.length_map]
  have := List.length_filter_le (fun i => decide (M.gray n / 2 ^ i % 2 = 1)) (List.range' 0 r)
  simpa using this
theorem implSetAt_l0 {r n : Nat} (hr : r ≤ 40) (hn : n < 2 ^ 62) (d : Nat) : ∀ (k i : Nat) (acc : List Int), i + d = r → acc.length ≤ i → d < k →
    impl_SetAt.l0 k (n : Int) acc (r : Int) (i : Int) = some (acc ++ ((List.range' i d).filter fun i => decide (M.gray n / 2 ^ i % 2 = 1)).map Int.ofNat, true) := by
  induction d with
  | zero =>
    intro k i acc hi ha hk
    obtain ⟨k, rfl⟩ : ∃ m, k = m + 1 := ⟨k - 1, by omega⟩
    simp only [impl_SetAt.l0]
    rw [if_neg (by omega)]; simp
  | succ d ih =>
    intro k i acc hi ha hk
    obtain ⟨k, rfl⟩ : ∃ m, k = m + 1 := ⟨k - 1, by omega⟩
    have hgl := M.gray_lt (r := 62) hn
    simp only [impl_SetAt.l0]
    rw [if_pos (by omega), if_pos (by omega), gray_int (by omega), and_shr (by omega) (by omega), w64 (by omega) (by omega), show ((i : Int) + 1) = ((i + 1 : Nat) : Int) by omega]
    rw [List.range'_succ, List.filter_cons]
    generalize M.gray n / 2 ^ i = u
    by_cases q : u % 2 = 1
    · rw [if_pos (by omega), if_pos (by omega), ih k (i + 1) _ (by omega) (by simp; omega) (by omega), if_pos (by simpa using q)]
      simp
    · rw [if_neg (by omega), ih k (i + 1) _ (by omega) (by omega) (by omega), if_neg (by simpa using q)]
theorem specSetAt_l0 {r n : Nat} (hr : r ≤ 40) (hn : n < 2 ^ 62) (d : Nat) : ∀ (k i : Nat) (acc : List Int), i + d = r → acc.length ≤ i → d < k →
    spec_SetAt.l0 k (r : Int) (n : Int) acc (i : Int) = some (acc ++ ((List.range' i d).filter fun i => decide (M.gray n / 2 ^ i % 2 = 1)).map Int.ofNat, true) := by
  induction d with
  | zero =>
    intro k i acc hi ha hk
    obtain ⟨k, rfl⟩ : ∃ m, k = m + 1 := ⟨k - 1, by omega⟩
    simp only [spec_SetAt.l0]
    rw [if_neg (by omega)]; simp
  | succ d ih =>
    intro k i acc hi ha hk
    obtain ⟨k, rfl⟩ : ∃ m, k = m + 1 := ⟨k - 1, by omega⟩
    have hgl := M.gray_lt (r := 62) hn
    simp only [spec_SetAt.l0, spec_nuOf.f, Option.bind_some]
    rw [if_pos (by omega), if_pos (by omega), gray_int' (by omega), and_shr (by omega) (by omega), w64 (by omega) (by omega), show ((i : Int) + 1) = ((i + 1 : Nat) : Int) by omega]
    rw [List.range'_succ, List.filter_cons]
    generalize M.gray n / 2 ^ i = u
    by_cases q : u % 2 = 1
    · rw [if_pos (by omega), if_pos (by omega), ih k (i + 1) _ (by omega) (by simp; omega) (by omega), if_pos (by simpa using q)]
      simp
    · rw [if_neg (by omega), ih k (i + 1) _ (by omega) (by omega) (by omega), if_neg (by simpa using q)]
theorem implSetAt {r n k : Nat} (hr : 1 ≤ r ∧ r ≤ 20) (hn : n < 2 ^ r) (hk : 50 < k) : impl_SetAt.f k (r : Int) (n : Int) = some (setL r n, true) := by
  have hp : 2 ^ r ≤ 2 ^ 20 := Nat.pow_le_pow_right (by decide) hr.2
  have hpos := Nat.two_pow_pos r
  have e : wrap64 (shl .i64 1 (r : Int) - 1) = ((2 ^ r - 1 : Nat) : Int) := by rw [shl_one (by omega), w64 (by omega) (by omega)]; omega
  obtain ⟨k, rfl⟩ : ∃ m, k = m + 1 := ⟨k - 1, by omega⟩
  have h := implSetAt_l0 (r := r) (n := n) (by omega) (by omega) r k 0 [] (by omega) (by simp) (by omega)
  rw [List.nil_append, ← setL_eq] at h
  have h1 : (r : Int) ≥ 1 := by omega
  have h2 : (r : Int) ≤ 20 := by omega
  have h3 : (0 : Int) ≤ r := by omega
  have h4 : (n : Int) ≥ 0 := by omega
  have h5 : (n : Int) ≤ ((2 ^ r - 1 : Nat) : Int) := by omega
  unfold impl_SetAt.f impl_isSize.f impl_in.f
  simp only [impl_SetAt.j0, e]
  simp only [h1, h2, h3, h4, h5, if_true, decide_true, Option.bind_some, Bool.not_true, Bool.false_eq_true, if_false]
  exact h
theorem specSetAt {r n k : Nat} (hr : 1 ≤ r ∧ r ≤ 20) (hn : n < 2 ^ r) (hk : 50 < k) : spec_SetAt.f k (r : Int) (n : Int) = some (setL r n, true) := by
  have hp : 2 ^ r ≤ 2 ^ 20 := Nat.pow_le_pow_right (by decide) hr.2
  have hpos := Nat.two_pow_pos r
  have e : wrap64 (shl .i64 1 (r : Int) - 1) = ((2 ^ r - 1 : Nat) : Int) := by rw [shl_one (by omega), w64 (by omega) (by omega)]; omega
  obtain ⟨k, rfl⟩ : ∃ m, k = m + 1 := ⟨k - 1, by omega⟩
  have h := specSetAt_l0 (r := r) (n := n) (by omega) (by omega) r k 0 [] (by omega) (by simp) (by omega)
  rw [List.nil_append, ← setL_eq] at h
  have h1 : (r : Int) ≥ 1 := by omega
  have h2 : (r : Int) ≤ 20 := by omega
  have h3 : (0 : Int) ≤ r := by omega
  have h4 : (n : Int) ≥ 0 := by omega
  have h5 : (n : Int) ≤ ((2 ^ r - 1 : Nat) : Int) := by omega
  unfold spec_SetAt.f spec_nuSize.f spec_l1In.f
  simp only [spec_SetAt.j0, e]
  simp only [h1, h2, h3, h4, h5, if_true, decide_true, Option.bind_some, Bool.not_true, Bool.false_eq_true, if_false]
  exact h
theorem setAt_no {a0 a1 : Int} {k : Nat} (h : ¬ ∃ r n : Nat, a0 = r ∧ a1 = n ∧ (1 ≤ r ∧ r ≤ 20) ∧ n < 2 ^ r) (hk : 1 < k) : impl_SetAt.f k a0 a1 = some ([], false) ∧ spec_SetAt.f k a0 a1 = some ([], false) := by
  obtain ⟨k, rfl⟩ : ∃ m, k = m + 1 := ⟨k - 1, by omega⟩
  unfold spec_SetAt.f spec_nuSize.f spec_l1In.f impl_SetAt.f impl_isSize.f impl_in.f
  simp only [impl_SetAt.j0, spec_SetAt.j0]
  by_cases h1 : a0 ≥ 1
  · by_cases h2 : a0 ≤ 20
    · obtain ⟨r, rfl⟩ := Int.eq_ofNat_of_zero_le (show 0 ≤ a0 by omega)
      have hp : 2 ^ r ≤ 2 ^ 20 := Nat.pow_le_pow_right (by decide) (by omega)
      have hpos := Nat.two_pow_pos r
      have e : wrap64 (shl .i64 1 (r : Int) - 1) = ((2 ^ r - 1 : Nat) : Int) := by rw [shl_one (by omega), w64 (by omega) (by omega)]; omega
      have h3 : (0 : Int) ≤ r := by omega
      rw [e]
      by_cases h4 : a1 ≥ 0
      · by_cases h5 : a1 ≤ ((2 ^ r - 1 : Nat) : Int)
        · obtain ⟨n, rfl⟩ := Int.eq_ofNat_of_zero_le (show 0 ≤ a1 by omega)
          exact absurd ⟨r, n, rfl, rfl, ⟨by omega, by omega⟩, by omega⟩ h
        · simp [h1, h2, h3, h4, h5]
      · simp [h1, h2, h3, h4]
    · simp [h1, h2]
  · simp [h1]

end Go.Proofs.Ytomaodhlcacobaa.Pure
