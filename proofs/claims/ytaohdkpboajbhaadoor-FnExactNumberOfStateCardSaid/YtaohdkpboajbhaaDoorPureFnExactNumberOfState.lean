/- The law FnExactNumberOfState, told over plain functions, holds for all arguments; no condition beyond the kinds of the numbers and the texts' sizes that any argument has. -/
import Derived.Test.YtaohdkpboajbhaaDoorAx7
import Derived.Test.YtaohdkpboajbhaaDoorRing
set_option linter.unusedVariables false
set_option linter.unusedSimpArgs false
namespace Go.Proofs.YtaohdkpboajbhaaDoor.Pure
open Go.RowKit Go.Proofs.YtaohdkpboajbhaaDoor.A Go.Proofs.YtaohdkpboajbhaaDoorW.PrintWords Go.Proofs.YtaohdkpboajbhaaDoorW.PrintLast Go.Proofs.YtaohdkpboajbhaaDoorW.PrintMore

theorem FnExactNumberOfState : laws_FnExactNumberOfState.Pure := by
  intro s hs
  refine ⟨100, ?_⟩
  unfold laws_FnExactNumberOfState.f spec_NumberOfState.f impl_NumberOfState.f
  rcases stateCases s with ⟨a, rfl, ha⟩ | ⟨l, rfl, hl⟩
  · rw [riGood_sb ha.1 ha.2 (by omega), isState_sb ha.1 ha.2, riNumber (by omega) (by omega), number (by omega) (by omega)]
    simp
  · rw [tx_size] at hs
    rw [riGood (by omega), isState hs, hl]
    simp

end Go.Proofs.YtaohdkpboajbhaaDoor.Pure
