/- The law FnExactMoveRing, told over plain functions, holds for all arguments; no condition beyond the kinds of the numbers and the texts' sizes that any argument has. -/
import Derived.Test.YtaohdkpboajbhaaDoorAx5
import Derived.Test.YtaohdkpboajbhaaDoorSteps
set_option linter.unusedVariables false
set_option linter.unusedSimpArgs false
namespace Go.Proofs.YtaohdkpboajbhaaDoor.Pure
open Go.RowKit Go.Proofs.YtaohdkpboajbhaaDoor.A Go.Proofs.YtaohdkpboajbhaaDoorW.PrintWords Go.Proofs.YtaohdkpboajbhaaDoorW.PrintLast Go.Proofs.YtaohdkpboajbhaaDoorW.PrintMore

theorem FnExactMoveRing : laws_FnExactMoveRing.Pure := by
  intro s a hs _
  refine ⟨100, ?_⟩
  unfold laws_FnExactMoveRing.f spec_MoveRing.f impl_MoveRing.f
  rcases stateCases s with ⟨bs, rfl, hb⟩ | ⟨l, rfl, hl⟩
  · rw [riGood_sb hb.1 hb.2 (by omega), isState_sb hb.1 hb.2, riCan (by omega) (by omega), canMove (by omega)]
    simp only [Option.bind_some, if_true]
    by_cases q : canI bs a = true
    · obtain ⟨j, rfl, hj⟩ := canI_lt hb.1 q
      rw [riMove (by omega) hj, turned (by omega) hj, q]
      simp
    · have q' : canI bs a = false := by simpa using q
      rw [q']
      simp
  · rw [tx_size] at hs
    rw [riGood (by omega), isState hs, hl]
    simp

end Go.Proofs.YtaohdkpboajbhaaDoor.Pure
