/- The law FnExactStateOfNumber, told over plain functions, holds for all arguments; no condition beyond the kinds of the numbers. -/
import Derived.Test.YtomaodhlcacobaaAx1
import Derived.Test.YtomaodhlcacobaaAx12
import Derived.Test.YtomaodhlcacobaaAx4
import Derived.Test.YtomaodhlcacobaaState
set_option linter.unusedVariables false
set_option linter.unusedSimpArgs false
namespace Go.Proofs.Ytomaodhlcacobaa.Pure
open Go.RowKit Go.Proofs.Ytomaodhlcacobaa.A Go.Proofs.YtomaodhlcacobaaW.PrintWords Go.Proofs.YtomaodhlcacobaaW.PrintLast Go.Proofs.YtomaodhlcacobaaW.PrintMore

theorem FnExactStateOfNumber : laws_FnExactStateOfNumber.Pure := by
  intro a0 a1 hw hw1
  refine ⟨41, ?_⟩
  unfold laws_FnExactStateOfNumber.f spec_StateOfNumber.f impl_StateOfNumber.f spec_riRings.f spec_l1In.f impl_in.f
  by_cases h : 1 ≤ a0 ∧ a0 ≤ 20
  · obtain ⟨r, rfl⟩ := Int.eq_ofNat_of_zero_le (show 0 ≤ a0 by omega)
    have hp : 2 ^ r ≤ 2 ^ 20 := Nat.pow_le_pow_right (by decide) (by omega)
    have hpos := Nat.two_pow_pos r
    have e : wrap64 (shl .i64 1 (r : Int) - 1) = ((2 ^ r - 1 : Nat) : Int) := by
      rw [shl_one (by omega), w64 (by omega) (by omega)]; omega
    have h1 : (r : Int) ≥ 1 := h.1
    have h0 : (0 : Int) ≤ r := by omega
    rw [e]
    by_cases hn : 0 ≤ a1 ∧ a1 ≤ ((2 ^ r - 1 : Nat) : Int)
    · obtain ⟨n, rfl⟩ := Int.eq_ofNat_of_zero_le hn.1
      have hn2 : n ≤ 2 ^ r - 1 := by omega
      have h3 : (0 : Int) ≤ n := by omega
      rw [riState (by omega) (by omega) (by omega), state (by omega) (by omega) (by omega)]
      simp [h1, h.2, h0, h3, hn.2]
    · by_cases h3 : a1 ≥ 0
      · have h4 : ¬ a1 ≤ ((2 ^ r - 1 : Nat) : Int) := fun z => hn ⟨h3, z⟩
        simp [h1, h.2, h0, h3, h4]
      · simp [h1, h.2, h0, h3]
  · by_cases h1 : a0 ≥ 1
    · have h2 : ¬ a0 ≤ 20 := fun z => h ⟨h1, z⟩
      simp [h1, h2]
    · simp [h1]

end Go.Proofs.Ytomaodhlcacobaa.Pure
