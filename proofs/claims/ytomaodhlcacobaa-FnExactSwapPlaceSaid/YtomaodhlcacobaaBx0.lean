-- written by a program of this session's over the kit's print (xp.py)
import Derived.Test.YtomaodhlcacobaaProg
import Derived.Below
import Derived.Deep.Draws
import Derived.Deep.AppendLies
import Derived.Maps.AppendAt
import Derived.OwnWalk
import Derived.Laws.BytesArg
import Derived.Laws.MakeOwn
import Derived.Laws.OwnMore
import Derived.Deep.OwnRows
import Derived.Tactics
import Derived.Lib.ConvBytes
import Derived.Laws.Slices
import Derived.WalkKit
import Derived.KernelRfl
import Derived.RowKit3
import Derived.Deep.LoopGhost
import Derived.Deep.QuietTactic
import Derived.BigQuiet
import Derived.WideLaws
import Derived.Deep.DeepCutAuto
import Derived.Deep.CutBlock
import Derived.Deep.RegionHeld3
import Derived.Laws.Rows
import Derived.Lib.AppendStr
import Derived.ArgAppend
import Derived.Laws.IdiomCopy
import Derived.OrdersHeld
import Derived.Laws.BitsLemmas
import Derived.RowKit
import Derived.Deep.RegionLaw
import Derived.Shelf.Spec.SlicesInsert
import Derived.Test.YtomaodhlcacobaaL3
import Derived.Test.YtomaodhlcacobaaWWords
import Derived.Test.YtomaodhlcacobaaWLast
import Derived.Test.YtomaodhlcacobaaWTab
import Derived.Test.YtomaodhlcacobaaWFour
import Derived.Test.YtomaodhlcacobaaWQPut
import Derived.Test.YtomaodhlcacobaaWApart
import Derived.Test.YtomaodhlcacobaaWArr
import Derived.Test.YtomaodhlcacobaaWZeros
import Derived.Test.YtomaodhlcacobaaWFoot
import Derived.Test.YtomaodhlcacobaaWKept
import Derived.Test.YtomaodhlcacobaaWShare
import Derived.Test.YtomaodhlcacobaaWN
import Derived.Test.YtomaodhlcacobaaWFootNe
import Derived.Test.YtomaodhlcacobaaWAt
import Derived.Test.YtomaodhlcacobaaWEqStruct
import Derived.Test.YtomaodhlcacobaaWRepsOne
import Derived.Test.YtomaodhlcacobaaWInv
import Derived.Test.YtomaodhlcacobaaWInvWords
import Derived.Test.YtomaodhlcacobaaWGuard
import Derived.Test.YtomaodhlcacobaaWNEv
import Derived.Test.YtomaodhlcacobaaWMore
namespace Go.Proofs.Ytomaodhlcacobaa.B
open Go.RowKit Go.Proofs.YtomaodhlcacobaaW.PrintWords Go.Proofs.YtomaodhlcacobaaW.PrintLast Go.Proofs.YtomaodhlcacobaaW.PrintMore
attribute [local go_sem] max2_int min2_int max_two min_two max_three min_three max_four min_four   -- for this text's walks alone
set_option linter.unusedVariables false
set_option linter.unusedSimpArgs false



def errW : Option Int → Value
 | none => .nilIface
 | some c => .iface 0 (.int .i64 c)
theorem errW_none : errW none = .nilIface := rfl
theorem errW_some (c : Int) : errW (some c) = .iface 0 (.int .i64 c) := rfl

theorem info3 : (Try.prog.info? 3).map (fun i => (i.zero, i.size, i.bytes)) = some (some (.int .i64 0), 1, 8) := by kernel_rfl
-- the values' own types

end Go.Proofs.Ytomaodhlcacobaa.B
