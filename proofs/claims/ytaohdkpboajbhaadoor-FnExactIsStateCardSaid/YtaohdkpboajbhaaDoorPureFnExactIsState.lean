/- The law FnExactIsState, told over plain functions, holds for all arguments; no condition beyond the kinds of the numbers and the texts' sizes that any argument has. -/
import Derived.Test.YtaohdkpboajbhaaDoorAx4
import Derived.Test.YtaohdkpboajbhaaDoorRing
set_option linter.unusedVariables false
set_option linter.unusedSimpArgs false
namespace Go.Proofs.YtaohdkpboajbhaaDoor.Pure
open Go.RowKit Go.Proofs.YtaohdkpboajbhaaDoor.A Go.Proofs.YtaohdkpboajbhaaDoorW.PrintWords Go.Proofs.YtaohdkpboajbhaaDoorW.PrintLast Go.Proofs.YtaohdkpboajbhaaDoorW.PrintMore

theorem FnExactIsState : laws_FnExactIsState.Pure := by
  intro s hs
  obtain ⟨l, rfl⟩ : ∃ l, s = tx l := ⟨s.data.toList, tx_of s⟩
  rw [tx_size] at hs
  refine ⟨30, ?_⟩
  unfold laws_FnExactIsState.f spec_IsState.f
  rw [riGood (by omega), isState hs]
  simp

end Go.Proofs.YtaohdkpboajbhaaDoor.Pure
