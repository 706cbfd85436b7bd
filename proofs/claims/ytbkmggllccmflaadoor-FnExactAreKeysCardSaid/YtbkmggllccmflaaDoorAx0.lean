-- written by a program of this session's over the kit's print (xp.py)
import Derived.Test.YtbkmggllccmflaaDoorProg
import Derived.Below
import Derived.Deep.Draws
import Derived.Deep.AppendLies
import Derived.Maps.AppendAt
import Derived.OwnWalk
import Derived.Laws.BytesArg
import Derived.Laws.MakeOwn
import Derived.Laws.OwnMore
import Derived.Deep.OwnRows
import Derived.Tactics
import Derived.Lib.ConvBytes
import Derived.Laws.Slices
import Derived.WalkKit
import Derived.KernelRfl
import Derived.RowKit3
import Derived.Deep.LoopGhost
import Derived.Deep.QuietTactic
import Derived.BigQuiet
import Derived.WideLaws
import Derived.Deep.DeepCutAuto
import Derived.Deep.CutBlock
import Derived.Deep.RegionHeld3
import Derived.Laws.Rows
import Derived.Lib.AppendStr
import Derived.ArgAppend
import Derived.Laws.IdiomCopy
import Derived.OrdersHeld
import Derived.Laws.BitsLemmas
import Derived.RowKit
import Derived.Test.YtbkmggllccmflaaDoorAE
import Derived.Test.YtbkmggllccmflaaDoorWWords
import Derived.Test.YtbkmggllccmflaaDoorWLast
import Derived.Test.YtbkmggllccmflaaDoorWTab
import Derived.Test.YtbkmggllccmflaaDoorWFour
import Derived.Test.YtbkmggllccmflaaDoorWQPut
import Derived.Test.YtbkmggllccmflaaDoorWApart
import Derived.Test.YtbkmggllccmflaaDoorWArr
import Derived.Test.YtbkmggllccmflaaDoorWZeros
import Derived.Test.YtbkmggllccmflaaDoorWFoot
import Derived.Test.YtbkmggllccmflaaDoorWKept
import Derived.Test.YtbkmggllccmflaaDoorWShare
import Derived.Test.YtbkmggllccmflaaDoorWN
import Derived.Test.YtbkmggllccmflaaDoorWFootNe
import Derived.Test.YtbkmggllccmflaaDoorWAt
import Derived.Test.YtbkmggllccmflaaDoorWEqStruct
import Derived.Test.YtbkmggllccmflaaDoorWRepsOne
import Derived.Test.YtbkmggllccmflaaDoorWInv
import Derived.Test.YtbkmggllccmflaaDoorWInvWords
import Derived.Test.YtbkmggllccmflaaDoorWGuard
import Derived.Test.YtbkmggllccmflaaDoorWNEv
import Derived.Test.YtbkmggllccmflaaDoorWMore
namespace Go.Proofs.YtbkmggllccmflaaDoor.A
open Go.RowKit Go.Proofs.YtbkmggllccmflaaDoorW.PrintWords Go.Proofs.YtbkmggllccmflaaDoorW.PrintLast Go.Proofs.YtbkmggllccmflaaDoorW.PrintMore
attribute [local go_sem] max2_int min2_int max_two min_two max_three min_three max_four min_four   -- for this text's walks alone
set_option linter.unusedVariables false
set_option linter.unusedSimpArgs false



def errW : Option Int → Value
  | none => .nilIface
  | some c => .iface 0 (.int .i64 c)
theorem errW_none : errW none = .nilIface := rfl
theorem errW_some (c : Int) : errW (some c) = .iface 0 (.int .i64 c) := rfl

theorem info9 : (Tryd.prog.info? 9).map (fun i => (i.zero, i.size, i.bytes)) = some (some (.string ⟨#[]⟩), 1, 16) := by kernel_rfl
-- the values' own types

end Go.Proofs.YtbkmggllccmflaaDoor.A
