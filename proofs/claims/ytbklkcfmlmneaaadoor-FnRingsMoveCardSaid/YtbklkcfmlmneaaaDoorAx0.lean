-- written by a program of this session's over the kit's print (xp.py)
import Derived.Test.YtbklkcfmlmneaaaDoorProg
import Derived.Below
import Derived.Deep.Draws
import Derived.Deep.AppendLies
import Derived.Maps.AppendAt
import Derived.OwnWalk
import Derived.Laws.BytesArg
import Derived.Laws.MakeOwn
import Derived.Laws.OwnMore
import Derived.Deep.OwnRows
import Derived.Tactics
import Derived.Lib.ConvBytes
import Derived.Laws.Slices
import Derived.WalkKit
import Derived.KernelRfl
import Derived.RowKit3
import Derived.Deep.LoopGhost
import Derived.Deep.QuietTactic
import Derived.BigQuiet
import Derived.WideLaws
import Derived.Deep.DeepCutAuto
import Derived.Deep.CutBlock
import Derived.Deep.RegionHeld3
import Derived.Laws.Rows
import Derived.Lib.AppendStr
import Derived.ArgAppend
import Derived.Laws.IdiomCopy
import Derived.OrdersHeld
import Derived.Laws.BitsLemmas
import Derived.RowKit
import Derived.Test.YtbklkcfmlmneaaaDoorAE
import Derived.Lib.OthersKept
import Derived.Test.YtbklkcfmlmneaaaDoorWWords
import Derived.Test.YtbklkcfmlmneaaaDoorWLast
import Derived.Test.YtbklkcfmlmneaaaDoorWTab
import Derived.Test.YtbklkcfmlmneaaaDoorWFour
import Derived.Test.YtbklkcfmlmneaaaDoorWQPut
import Derived.Test.YtbklkcfmlmneaaaDoorWApart
import Derived.Test.YtbklkcfmlmneaaaDoorWArr
import Derived.Test.YtbklkcfmlmneaaaDoorWZeros
import Derived.Test.YtbklkcfmlmneaaaDoorWFoot
import Derived.Test.YtbklkcfmlmneaaaDoorWKept
import Derived.Test.YtbklkcfmlmneaaaDoorWShare
import Derived.Test.YtbklkcfmlmneaaaDoorWN
import Derived.Test.YtbklkcfmlmneaaaDoorWFootNe
import Derived.Test.YtbklkcfmlmneaaaDoorWAt
import Derived.Test.YtbklkcfmlmneaaaDoorWEqStruct
import Derived.Test.YtbklkcfmlmneaaaDoorWRepsOne
import Derived.Test.YtbklkcfmlmneaaaDoorWInv
import Derived.Test.YtbklkcfmlmneaaaDoorWInvWords
import Derived.Test.YtbklkcfmlmneaaaDoorWGuard
import Derived.Test.YtbklkcfmlmneaaaDoorWNEv
import Derived.Test.YtbklkcfmlmneaaaDoorWMore
-- halved
namespace Go.Proofs.YtbklkcfmlmneaaaDoor.A
-- slim
set_option maxHeartbeats 8000000
set_option maxRecDepth 100000
open Go.RowKit Go.Proofs.YtbklkcfmlmneaaaDoorW.PrintWords Go.Proofs.YtbklkcfmlmneaaaDoorW.PrintLast Go.Proofs.YtbklkcfmlmneaaaDoorW.PrintMore
attribute [local go_sem] max2_int min2_int max_two min_two max_three min_three max_four min_four   -- for this text's walks alone
set_option linter.unusedVariables false
set_option linter.unusedSimpArgs false



def errW : Option Int → Value
 | none => .nilIface
 | some c => .iface 0 (.int .i64 c)
theorem errW_none : errW none = .nilIface := rfl
theorem errW_some (c : Int) : errW (some c) = .iface 0 (.int .i64 c) := rfl

theorem info3 : (Tryd.prog.info? 3).map (fun i => (i.zero, i.size, i.bytes)) = some (some (.int .i64 0), 1, 8) := by kernel_rfl
theorem info5 : (Tryd.prog.info? 5).map (fun i => (i.zero, i.size, i.bytes)) = some (some (.int .u8 0), 1, 1) := by kernel_rfl
theorem info9 : (Tryd.prog.info? 9).map (fun i => (i.zero, i.size, i.bytes)) = some (some (.string ⟨#[]⟩), 1, 16) := by kernel_rfl
-- the values' own types

end Go.Proofs.YtbklkcfmlmneaaaDoor.A
