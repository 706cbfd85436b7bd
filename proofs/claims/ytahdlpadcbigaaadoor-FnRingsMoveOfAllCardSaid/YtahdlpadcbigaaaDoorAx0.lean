-- written by a program of this session's over the kit's print (xp.py)
import Derived.Test.YtahdlpadcbigaaaDoorProg
import Derived.Below
import Derived.Deep.Draws
import Derived.Deep.AppendLies
import Derived.Maps.AppendAt
import Derived.OwnWalk
import Derived.Laws.BytesArg
import Derived.Laws.MakeOwn
import Derived.Laws.OwnMore
import Derived.Deep.OwnRows
import Derived.Tactics
import Derived.Lib.ConvBytes
import Derived.Laws.Slices
import Derived.WalkKit
import Derived.KernelRfl
import Derived.RowKit3
import Derived.Deep.LoopGhost
import Derived.Deep.QuietTactic
import Derived.BigQuiet
import Derived.WideLaws
import Derived.Deep.DeepCutAuto
import Derived.Deep.CutBlock
import Derived.Deep.RegionHeld3
import Derived.Laws.Rows
import Derived.Lib.AppendStr
import Derived.ArgAppend
import Derived.Laws.IdiomCopy
import Derived.OrdersHeld
import Derived.Laws.BitsLemmas
import Derived.RowKit
import Derived.Test.YtahdlpadcbigaaaDoorAE
import Derived.Lib.OthersKept
import Derived.Test.YtahdlpadcbigaaaDoorWWords
import Derived.Test.YtahdlpadcbigaaaDoorWLast
import Derived.Test.YtahdlpadcbigaaaDoorWTab
import Derived.Test.YtahdlpadcbigaaaDoorWFour
import Derived.Test.YtahdlpadcbigaaaDoorWQPut
import Derived.Test.YtahdlpadcbigaaaDoorWApart
import Derived.Test.YtahdlpadcbigaaaDoorWArr
import Derived.Test.YtahdlpadcbigaaaDoorWZeros
import Derived.Test.YtahdlpadcbigaaaDoorWFoot
import Derived.Test.YtahdlpadcbigaaaDoorWKept
import Derived.Test.YtahdlpadcbigaaaDoorWShare
import Derived.Test.YtahdlpadcbigaaaDoorWN
import Derived.Test.YtahdlpadcbigaaaDoorWFootNe
import Derived.Test.YtahdlpadcbigaaaDoorWAt
import Derived.Test.YtahdlpadcbigaaaDoorWEqStruct
import Derived.Test.YtahdlpadcbigaaaDoorWRepsOne
import Derived.Test.YtahdlpadcbigaaaDoorWInv
import Derived.Test.YtahdlpadcbigaaaDoorWInvWords
import Derived.Test.YtahdlpadcbigaaaDoorWGuard
import Derived.Test.YtahdlpadcbigaaaDoorWNEv
import Derived.Test.YtahdlpadcbigaaaDoorWMore
-- halved
namespace Go.Proofs.YtahdlpadcbigaaaDoor.A
-- slim
set_option maxHeartbeats 8000000
set_option maxRecDepth 100000
open Go.RowKit Go.Proofs.YtahdlpadcbigaaaDoorW.PrintWords Go.Proofs.YtahdlpadcbigaaaDoorW.PrintLast Go.Proofs.YtahdlpadcbigaaaDoorW.PrintMore
attribute [local go_sem] max2_int min2_int max_two min_two max_three min_three max_four min_four   -- for this text's walks alone
set_option linter.unusedVariables false
set_option linter.unusedSimpArgs false



def errW : Option Int → Value
 | none => .nilIface
 | some c => .iface 0 (.int .i64 c)
theorem errW_none : errW none = .nilIface := rfl
theorem errW_some (c : Int) : errW (some c) = .iface 0 (.int .i64 c) := rfl

theorem info3 : (Tryd.prog.info? 3).map (fun i => (i.zero, i.size, i.bytes)) = some (some (.int .i64 0), 1, 8) := by kernel_rfl
theorem info5 : (Tryd.prog.info? 5).map (fun i => (i.zero, i.size, i.bytes)) = some (some (.int .u8 0), 1, 1) := by kernel_rfl
theorem info9 : (Tryd.prog.info? 9).map (fun i => (i.zero, i.size, i.bytes)) = some (some (.string ⟨#[]⟩), 1, 16) := by kernel_rfl
-- the values' own types

end Go.Proofs.YtahdlpadcbigaaaDoor.A
