-- written by a program of this session's over the kit's print (xp.py)
import Derived.Test.YtclomifkpciefaaProg
import Derived.Below
import Derived.Deep.Draws
import Derived.Deep.AppendLies
import Derived.Maps.AppendAt
import Derived.OwnWalk
import Derived.Laws.BytesArg
import Derived.Laws.MakeOwn
import Derived.Laws.OwnMore
import Derived.Deep.OwnRows
import Derived.Tactics
import Derived.Lib.ConvBytes
import Derived.Laws.Slices
import Derived.WalkKit
import Derived.KernelRfl
import Derived.RowKit3
import Derived.Deep.LoopGhost
import Derived.Deep.QuietTactic
import Derived.BigQuiet
import Derived.WideLaws
import Derived.Deep.DeepCutAuto
import Derived.Deep.CutBlock
import Derived.Deep.RegionHeld3
import Derived.Laws.Rows
import Derived.Lib.AppendStr
import Derived.ArgAppend
import Derived.Laws.IdiomCopy
import Derived.OrdersHeld
import Derived.Laws.BitsLemmas
import Derived.RowKit
import Derived.Test.YtclomifkpciefaaFE
import Derived.Shelf.Spec.SlicesInsert
import Derived.Deep.RegionLaw
import Derived.Test.YtclomifkpciefaaWWords
import Derived.Test.YtclomifkpciefaaWLast
import Derived.Test.YtclomifkpciefaaWTab
import Derived.Test.YtclomifkpciefaaWFour
import Derived.Test.YtclomifkpciefaaWQPut
import Derived.Test.YtclomifkpciefaaWApart
import Derived.Test.YtclomifkpciefaaWArr
import Derived.Test.YtclomifkpciefaaWZeros
import Derived.Test.YtclomifkpciefaaWFoot
import Derived.Test.YtclomifkpciefaaWKept
import Derived.Test.YtclomifkpciefaaWShare
import Derived.Test.YtclomifkpciefaaWN
import Derived.Test.YtclomifkpciefaaWFootNe
import Derived.Test.YtclomifkpciefaaWAt
import Derived.Test.YtclomifkpciefaaWEqStruct
import Derived.Test.YtclomifkpciefaaWRepsOne
import Derived.Test.YtclomifkpciefaaWInv
import Derived.Test.YtclomifkpciefaaWInvWords
import Derived.Test.YtclomifkpciefaaWGuard
import Derived.Test.YtclomifkpciefaaWNEv
import Derived.Test.YtclomifkpciefaaWMore
namespace Go.Proofs.Ytclomifkpciefaa.F
open Go.RowKit Go.Proofs.YtclomifkpciefaaW.PrintWords Go.Proofs.YtclomifkpciefaaW.PrintLast Go.Proofs.YtclomifkpciefaaW.PrintMore
attribute [local go_sem] max2_int min2_int max_two min_two max_three min_three max_four min_four   -- for this text's walks alone
set_option linter.unusedVariables false
set_option linter.unusedSimpArgs false



def errW : Option Int → Value
  | none => .nilIface
  | some c => .iface 0 (.int .i64 c)
theorem errW_none : errW none = .nilIface := rfl
theorem errW_some (c : Int) : errW (some c) = .iface 0 (.int .i64 c) := rfl

theorem info5 : (Try.prog.info? 5).map (fun i => (i.zero, i.size, i.bytes)) = some (some (.int .u8 0), 1, 1) := by kernel_rfl
theorem info9 : (Try.prog.info? 9).map (fun i => (i.zero, i.size, i.bytes)) = some (some (.string ⟨#[]⟩), 1, 16) := by kernel_rfl
-- the values' own types

end Go.Proofs.Ytclomifkpciefaa.F
