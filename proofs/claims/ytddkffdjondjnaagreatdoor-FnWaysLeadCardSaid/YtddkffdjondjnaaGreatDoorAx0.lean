-- written by a program of this session's over the kit's print (xp.py)
import Derived.Test.YtddkffdjondjnaaGreatDoorProg
import Derived.Below
import Derived.Deep.Draws
import Derived.Deep.AppendLies
import Derived.Maps.AppendAt
import Derived.OwnWalk
import Derived.Laws.BytesArg
import Derived.Laws.MakeOwn
import Derived.Laws.OwnMore
import Derived.Deep.OwnRows
import Derived.Tactics
import Derived.Lib.ConvBytes
import Derived.Laws.Slices
import Derived.WalkKit
import Derived.KernelRfl
import Derived.RowKit3
import Derived.Deep.LoopGhost
import Derived.Deep.QuietTactic
import Derived.BigQuiet
import Derived.WideLaws
import Derived.Deep.DeepCutAuto
import Derived.Deep.CutBlock
import Derived.Deep.RegionHeld3
import Derived.Laws.Rows
import Derived.Lib.AppendStr
import Derived.ArgAppend
import Derived.Laws.IdiomCopy
import Derived.OrdersHeld
import Derived.Laws.BitsLemmas
import Derived.RowKit
import Derived.Test.YtddkffdjondjnaaGreatDoorAE
import Derived.Lib.OthersKept
import Derived.Shelf.Abstract
import Derived.Test.YtddkffdjondjnaaGreatDoorWWords
import Derived.Test.YtddkffdjondjnaaGreatDoorWLast
import Derived.Test.YtddkffdjondjnaaGreatDoorWTab
import Derived.Test.YtddkffdjondjnaaGreatDoorWFour
import Derived.Test.YtddkffdjondjnaaGreatDoorWQPut
import Derived.Test.YtddkffdjondjnaaGreatDoorWApart
import Derived.Test.YtddkffdjondjnaaGreatDoorWArr
import Derived.Test.YtddkffdjondjnaaGreatDoorWZeros
import Derived.Test.YtddkffdjondjnaaGreatDoorWFoot
import Derived.Test.YtddkffdjondjnaaGreatDoorWKept
import Derived.Test.YtddkffdjondjnaaGreatDoorWShare
import Derived.Test.YtddkffdjondjnaaGreatDoorWN
import Derived.Test.YtddkffdjondjnaaGreatDoorWFootNe
import Derived.Test.YtddkffdjondjnaaGreatDoorWAt
import Derived.Test.YtddkffdjondjnaaGreatDoorWEqStruct
import Derived.Test.YtddkffdjondjnaaGreatDoorWRepsOne
import Derived.Test.YtddkffdjondjnaaGreatDoorWInv
import Derived.Test.YtddkffdjondjnaaGreatDoorWInvWords
import Derived.Test.YtddkffdjondjnaaGreatDoorWGuard
import Derived.Test.YtddkffdjondjnaaGreatDoorWNEv
import Derived.Test.YtddkffdjondjnaaGreatDoorWMore
-- halved
namespace Go.Proofs.YtddkffdjondjnaaGreatDoor.A
-- slim
set_option maxHeartbeats 8000000
set_option maxRecDepth 100000
open Go.RowKit Go.Proofs.YtddkffdjondjnaaGreatDoorW.PrintWords Go.Proofs.YtddkffdjondjnaaGreatDoorW.PrintLast Go.Proofs.YtddkffdjondjnaaGreatDoorW.PrintMore
attribute [local go_sem] max2_int min2_int max_two min_two max_three min_three max_four min_four   -- for this text's walks alone
set_option linter.unusedVariables false
set_option linter.unusedSimpArgs false



def errW : Option Int → Value
 | none => .nilIface
 | some c => .iface 0 (.int .i64 c)
theorem errW_none : errW none = .nilIface := rfl
theorem errW_some (c : Int) : errW (some c) = .iface 0 (.int .i64 c) := rfl

theorem info3 : (Tryz.prog.info? 3).map (fun i => (i.zero, i.size, i.bytes)) = some (some (.int .i64 0), 1, 8) := by kernel_rfl
theorem info5 : (Tryz.prog.info? 5).map (fun i => (i.zero, i.size, i.bytes)) = some (some (.int .u8 0), 1, 1) := by kernel_rfl
theorem info9 : (Tryz.prog.info? 9).map (fun i => (i.zero, i.size, i.bytes)) = some (some (.string ⟨#[]⟩), 1, 16) := by kernel_rfl
-- the values' own types

end Go.Proofs.YtddkffdjondjnaaGreatDoor.A
