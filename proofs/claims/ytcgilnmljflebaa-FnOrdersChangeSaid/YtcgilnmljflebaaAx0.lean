-- written by a program of this session's over the kit's print (xp.py)
import Derived.Test.YtcgilnmljflebaaProg
import Derived.Below
import Derived.Deep.Draws
import Derived.Deep.AppendLies
import Derived.Maps.AppendAt
import Derived.OwnWalk
import Derived.Laws.BytesArg
import Derived.Laws.MakeOwn
import Derived.Laws.OwnMore
import Derived.Deep.OwnRows
import Derived.Tactics
import Derived.Lib.ConvBytes
import Derived.Laws.Slices
import Derived.WalkKit
import Derived.KernelRfl
import Derived.RowKit3
import Derived.Deep.LoopGhost
import Derived.Deep.QuietTactic
import Derived.BigQuiet
import Derived.WideLaws
import Derived.Deep.DeepCutAuto
import Derived.Deep.CutBlock
import Derived.Deep.RegionHeld3
import Derived.Laws.Rows
import Derived.Lib.AppendStr
import Derived.ArgAppend
import Derived.Laws.IdiomCopy
import Derived.OrdersHeld
import Derived.Laws.BitsLemmas
import Derived.RowKit
import Derived.Shelf.Abstract
import Derived.Test.YtcgilnmljflebaaL2
import Derived.Lib.OwnBridge
import Derived.Deep.RegionLaw
import Derived.Shelf.Spec.SlicesInsert
import Derived.Test.YtcgilnmljflebaaL3
import Derived.Test.YtcgilnmljflebaaWWords
import Derived.Test.YtcgilnmljflebaaWLast
import Derived.Test.YtcgilnmljflebaaWTab
import Derived.Test.YtcgilnmljflebaaWFour
import Derived.Test.YtcgilnmljflebaaWQPut
import Derived.Test.YtcgilnmljflebaaWApart
import Derived.Test.YtcgilnmljflebaaWArr
import Derived.Test.YtcgilnmljflebaaWZeros
import Derived.Test.YtcgilnmljflebaaWFoot
import Derived.Test.YtcgilnmljflebaaWKept
import Derived.Test.YtcgilnmljflebaaWShare
import Derived.Test.YtcgilnmljflebaaWN
import Derived.Test.YtcgilnmljflebaaWFootNe
import Derived.Test.YtcgilnmljflebaaWAt
import Derived.Test.YtcgilnmljflebaaWEqStruct
import Derived.Test.YtcgilnmljflebaaWRepsOne
import Derived.Test.YtcgilnmljflebaaWInv
import Derived.Test.YtcgilnmljflebaaWInvWords
import Derived.Test.YtcgilnmljflebaaWGuard
import Derived.Test.YtcgilnmljflebaaWNEv
import Derived.Test.YtcgilnmljflebaaWMore
-- halved
namespace Go.Proofs.Ytcgilnmljflebaa.A
-- slim
set_option maxHeartbeats 8000000
set_option maxRecDepth 100000
open Go.RowKit Go.Proofs.YtcgilnmljflebaaW.PrintWords Go.Proofs.YtcgilnmljflebaaW.PrintLast Go.Proofs.YtcgilnmljflebaaW.PrintMore
attribute [local go_sem] max2_int min2_int max_two min_two max_three min_three max_four min_four   -- for this text's walks alone
set_option linter.unusedVariables false
set_option linter.unusedSimpArgs false
def errW : Option Int → Value
 | none => .nilIface
 | some c => .iface 0 (.int .i64 c)
theorem errW_none : errW none = .nilIface := rfl
theorem errW_some (c : Int) : errW (some c) = .iface 0 (.int .i64 c) := rfl
theorem info3 : (Try.prog.info? 3).map (fun i => (i.zero, i.size, i.bytes)) = some (some (.int .i64 0), 1, 8) := by kernel_rfl
-- the values' own types
end Go.Proofs.Ytcgilnmljflebaa.A
