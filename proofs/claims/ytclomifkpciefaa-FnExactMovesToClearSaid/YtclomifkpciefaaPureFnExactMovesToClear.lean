/- The law FnExactMovesToClear, told over plain functions, holds for all arguments; no condition beyond the kinds of the numbers. -/
import Derived.Test.YtclomifkpciefaaAx1
import Derived.Test.YtclomifkpciefaaAx12
import Derived.Test.YtclomifkpciefaaAx13
set_option linter.unusedVariables false
set_option linter.unusedSimpArgs false
namespace Go.Proofs.Ytclomifkpciefaa.Pure
open Go.RowKit Go.Proofs.Ytclomifkpciefaa.A Go.Proofs.YtclomifkpciefaaW.PrintWords Go.Proofs.YtclomifkpciefaaW.PrintLast Go.Proofs.YtclomifkpciefaaW.PrintMore

theorem movesToClear_some : ∀ n : Nat, n < 20 → laws_FnExactMovesToClear.f 80 ((n : Int) + 1) = some true := by decide +kernel
theorem FnExactMovesToClear : laws_FnExactMovesToClear.Pure := by
  intro a0 _
  refine ⟨80, ?_⟩
  by_cases h : 1 ≤ a0 ∧ a0 ≤ 20
  · obtain ⟨n, hn⟩ := Int.eq_ofNat_of_zero_le (show 0 ≤ a0 - 1 by omega)
    have := movesToClear_some n (by omega)
    rwa [show ((n : Int) + 1) = a0 by omega] at this
  · unfold laws_FnExactMovesToClear.f spec_MovesToClear.f impl_MovesToClear.f impl_AllOn.f spec_riRings.f spec_l1In.f impl_in.f
    by_cases q0 : a0 ≥ 1
    · have q1 : ¬ a0 ≤ 20 := fun z => h ⟨q0, z⟩
      simp [q0, q1]
    · simp [q0]

end Go.Proofs.Ytclomifkpciefaa.Pure
