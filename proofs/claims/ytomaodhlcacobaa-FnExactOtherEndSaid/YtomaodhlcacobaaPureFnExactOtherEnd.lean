/- The law FnExactOtherEnd, told over plain functions, holds for all arguments; no condition beyond the kinds of the numbers. -/
import Derived.Test.YtomaodhlcacobaaAx1
import Derived.Test.YtomaodhlcacobaaAx4
import Derived.Test.YtomaodhlcacobaaState
set_option linter.unusedVariables false
set_option linter.unusedSimpArgs false
namespace Go.Proofs.Ytomaodhlcacobaa.Pure
open Go.RowKit Go.Proofs.Ytomaodhlcacobaa.A Go.Proofs.YtomaodhlcacobaaW.PrintWords Go.Proofs.YtomaodhlcacobaaW.PrintLast Go.Proofs.YtomaodhlcacobaaW.PrintMore

theorem FnExactOtherEnd : laws_FnExactOtherEnd.Pure := by
  intro a0 hw
  refine ⟨41, ?_⟩
  unfold laws_FnExactOtherEnd.f spec_OtherEnd.f impl_OtherEnd.f spec_riRings.f spec_l1In.f impl_in.f
  by_cases h : 1 ≤ a0 ∧ a0 ≤ 20
  · obtain ⟨r, rfl⟩ := Int.eq_ofNat_of_zero_le (show 0 ≤ a0 by omega)
    have hp : 2 ^ r ≤ 2 ^ 20 := Nat.pow_le_pow_right (by decide) (by omega)
    have hpos := Nat.two_pow_pos r
    have e : wrap64 (shl .i64 1 (r : Int) - 1) = ((2 ^ r - 1 : Nat) : Int) := by
      rw [shl_one (by omega), w64 (by omega) (by omega)]; omega
    have h1 : (r : Int) ≥ 1 := h.1
    have h0 : (0 : Int) ≤ r := by omega
    rw [e, riState (by omega) (by omega) (by omega), state (by omega) (by omega) (by omega)]
    simp [h1, h.2, h0]
  · by_cases h1 : a0 ≥ 1
    · have h2 : ¬ a0 ≤ 20 := fun z => h ⟨h1, z⟩
      simp [h1, h2]
    · simp [h1]

end Go.Proofs.Ytomaodhlcacobaa.Pure
