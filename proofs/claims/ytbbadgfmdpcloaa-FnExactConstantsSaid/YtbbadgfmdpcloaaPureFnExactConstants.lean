/- The law FnExactConstants holds: every constant has its value; no condition. -/
import Derived.Test.YtbbadgfmdpcloaaPFnExactConstantsx1
namespace Go.Proofs.Ytbbadgfmdpcloaa.Pure
open Go.RowKit Go.Proofs.Ytbbadgfmdpcloaa.PFnExactConstants Go.Proofs.YtbbadgfmdpcloaaW.PrintWords Go.Proofs.YtbbadgfmdpcloaaW.PrintLast

theorem FnExactConstants : laws_FnExactConstants.Pure := by
  unfold laws_FnExactConstants.Pure laws_FnExactConstants.f
  simp

end Go.Proofs.Ytbbadgfmdpcloaa.Pure
