-- written by a program of this session's over the kit's print (xp.py)
import Derived.Test.YtcejcobbfpbpoaaDoorProg
import Derived.Below
import Derived.Deep.Draws
import Derived.Deep.AppendLies
import Derived.Maps.AppendAt
import Derived.OwnWalk
import Derived.Laws.BytesArg
import Derived.Laws.MakeOwn
import Derived.Laws.OwnMore
import Derived.Deep.OwnRows
import Derived.Tactics
import Derived.Lib.ConvBytes
import Derived.Laws.Slices
import Derived.WalkKit
import Derived.KernelRfl
import Derived.RowKit3
import Derived.Deep.LoopGhost
import Derived.Deep.QuietTactic
import Derived.BigQuiet
import Derived.WideLaws
import Derived.Deep.DeepCutAuto
import Derived.Deep.CutBlock
import Derived.Deep.RegionHeld3
import Derived.Laws.Rows
import Derived.Lib.AppendStr
import Derived.ArgAppend
import Derived.Laws.IdiomCopy
import Derived.OrdersHeld
import Derived.Laws.BitsLemmas
import Derived.RowKit
import Derived.Test.YtcejcobbfpbpoaaDoorAE
import Derived.Lib.OthersKept
import Derived.Test.YtcejcobbfpbpoaaDoorL
import Derived.Lib.OwnBridge
import Derived.Test.YtcejcobbfpbpoaaDoorWWords
import Derived.Test.YtcejcobbfpbpoaaDoorWLast
import Derived.Test.YtcejcobbfpbpoaaDoorWTab
import Derived.Test.YtcejcobbfpbpoaaDoorWFour
import Derived.Test.YtcejcobbfpbpoaaDoorWQPut
import Derived.Test.YtcejcobbfpbpoaaDoorWApart
import Derived.Test.YtcejcobbfpbpoaaDoorWArr
import Derived.Test.YtcejcobbfpbpoaaDoorWZeros
import Derived.Test.YtcejcobbfpbpoaaDoorWFoot
import Derived.Test.YtcejcobbfpbpoaaDoorWKept
import Derived.Test.YtcejcobbfpbpoaaDoorWShare
import Derived.Test.YtcejcobbfpbpoaaDoorWN
import Derived.Test.YtcejcobbfpbpoaaDoorWFootNe
import Derived.Test.YtcejcobbfpbpoaaDoorWAt
import Derived.Test.YtcejcobbfpbpoaaDoorWEqStruct
import Derived.Test.YtcejcobbfpbpoaaDoorWRepsOne
import Derived.Test.YtcejcobbfpbpoaaDoorWInv
import Derived.Test.YtcejcobbfpbpoaaDoorWInvWords
import Derived.Test.YtcejcobbfpbpoaaDoorWGuard
import Derived.Test.YtcejcobbfpbpoaaDoorWNEv
import Derived.Test.YtcejcobbfpbpoaaDoorWMore
namespace Go.Proofs.YtcejcobbfpbpoaaDoor.A
open Go.RowKit Go.Proofs.YtcejcobbfpbpoaaDoorW.PrintWords Go.Proofs.YtcejcobbfpbpoaaDoorW.PrintLast Go.Proofs.YtcejcobbfpbpoaaDoorW.PrintMore
attribute [local go_sem] max2_int min2_int max_two min_two max_three min_three max_four min_four   -- for this text's walks alone
set_option linter.unusedVariables false
set_option linter.unusedSimpArgs false



def errW : Option Int → Value
  | none => .nilIface
  | some c => .iface 0 (.int .i64 c)
theorem errW_none : errW none = .nilIface := rfl
theorem errW_some (c : Int) : errW (some c) = .iface 0 (.int .i64 c) := rfl

theorem info5 : (Tryd.prog.info? 5).map (fun i => (i.zero, i.size, i.bytes)) = some (some (.int .u8 0), 1, 1) := by kernel_rfl
-- the values' own types

end Go.Proofs.YtcejcobbfpbpoaaDoor.A
