-- written by a program of this session's over the kit's print (xp.py)
import Derived.Test.YtgmmplcijhibgaaDoorProg
import Derived.Below
import Derived.Deep.Draws
import Derived.Deep.AppendLies
import Derived.Maps.AppendAt
import Derived.OwnWalk
import Derived.Laws.BytesArg
import Derived.Laws.MakeOwn
import Derived.Laws.OwnMore
import Derived.Deep.OwnRows
import Derived.Tactics
import Derived.Lib.ConvBytes
import Derived.Laws.Slices
import Derived.WalkKit
import Derived.KernelRfl
import Derived.RowKit3
import Derived.Deep.LoopGhost
import Derived.Deep.QuietTactic
import Derived.BigQuiet
import Derived.WideLaws
import Derived.Deep.DeepCutAuto
import Derived.Deep.CutBlock
import Derived.Deep.RegionHeld3
import Derived.Laws.Rows
import Derived.Lib.AppendStr
import Derived.ArgAppend
import Derived.Laws.IdiomCopy
import Derived.OrdersHeld
import Derived.Laws.BitsLemmas
import Derived.RowKit
import Derived.Test.YtgmmplcijhibgaaDoorAE
import Derived.Lib.OthersKept
import Derived.Test.YtgmmplcijhibgaaDoorWWords
import Derived.Test.YtgmmplcijhibgaaDoorWLast
import Derived.Test.YtgmmplcijhibgaaDoorWTab
import Derived.Test.YtgmmplcijhibgaaDoorWFour
import Derived.Test.YtgmmplcijhibgaaDoorWQPut
import Derived.Test.YtgmmplcijhibgaaDoorWApart
import Derived.Test.YtgmmplcijhibgaaDoorWArr
import Derived.Test.YtgmmplcijhibgaaDoorWZeros
import Derived.Test.YtgmmplcijhibgaaDoorWFoot
import Derived.Test.YtgmmplcijhibgaaDoorWKept
import Derived.Test.YtgmmplcijhibgaaDoorWShare
import Derived.Test.YtgmmplcijhibgaaDoorWN
import Derived.Test.YtgmmplcijhibgaaDoorWFootNe
import Derived.Test.YtgmmplcijhibgaaDoorWAt
import Derived.Test.YtgmmplcijhibgaaDoorWEqStruct
import Derived.Test.YtgmmplcijhibgaaDoorWRepsOne
import Derived.Test.YtgmmplcijhibgaaDoorWInv
import Derived.Test.YtgmmplcijhibgaaDoorWInvWords
import Derived.Test.YtgmmplcijhibgaaDoorWGuard
import Derived.Test.YtgmmplcijhibgaaDoorWNEv
import Derived.Test.YtgmmplcijhibgaaDoorWMore
namespace Go.Proofs.YtgmmplcijhibgaaDoor.A
open Go.RowKit Go.Proofs.YtgmmplcijhibgaaDoorW.PrintWords Go.Proofs.YtgmmplcijhibgaaDoorW.PrintLast Go.Proofs.YtgmmplcijhibgaaDoorW.PrintMore
attribute [local go_sem] max2_int min2_int max_two min_two max_three min_three max_four min_four   -- for this text's walks alone
set_option linter.unusedVariables false
set_option linter.unusedSimpArgs false



def errW : Option Int → Value
  | none => .nilIface
  | some c => .iface 0 (.int .i64 c)
theorem errW_none : errW none = .nilIface := rfl
theorem errW_some (c : Int) : errW (some c) = .iface 0 (.int .i64 c) := rfl

theorem info3 : (Tryd.prog.info? 3).map (fun i => (i.zero, i.size, i.bytes)) = some (some (.int .i64 0), 1, 8) := by kernel_rfl
theorem info5 : (Tryd.prog.info? 5).map (fun i => (i.zero, i.size, i.bytes)) = some (some (.int .u8 0), 1, 1) := by kernel_rfl
theorem info9 : (Tryd.prog.info? 9).map (fun i => (i.zero, i.size, i.bytes)) = some (some (.string ⟨#[]⟩), 1, 16) := by kernel_rfl
-- the values' own types

end Go.Proofs.YtgmmplcijhibgaaDoor.A
