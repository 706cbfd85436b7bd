/- Contracts of some functions of the program and of Go's library, in the form in which the print of the seat uses them; no statement of the program's laws. -/
import Derived.Test.YtbkmggllccmflaaDoorProg
import Derived.Below
import Derived.Deep.Draws
import Derived.Deep.AppendLies
import Derived.Maps.AppendAt
import Derived.OwnWalk
import Derived.Laws.BytesArg
import Derived.Laws.MakeOwn
import Derived.Laws.OwnMore
import Derived.Deep.OwnRows
import Derived.Tactics
import Derived.Lib.ConvBytes
import Derived.Laws.Slices
import Derived.WalkKit
import Derived.KernelRfl
import Derived.RowKit3
import Derived.Deep.LoopGhost
import Derived.Deep.QuietTactic
import Derived.BigQuiet
import Derived.WideLaws
import Derived.Deep.DeepCutAuto
import Derived.Deep.CutBlock
import Derived.Deep.RegionHeld3
import Derived.Laws.Rows
import Derived.Lib.AppendStr
import Derived.ArgAppend
import Derived.Laws.IdiomCopy
import Derived.OrdersHeld
import Derived.Laws.BitsLemmas
import Derived.RowKit
import Derived.Test.YtbkmggllccmflaaDoorWWords
import Derived.Test.YtbkmggllccmflaaDoorWLast
import Derived.Test.YtbkmggllccmflaaDoorWTab
import Derived.Test.YtbkmggllccmflaaDoorWFour
import Derived.Test.YtbkmggllccmflaaDoorWQPut
import Derived.Test.YtbkmggllccmflaaDoorWApart
import Derived.Test.YtbkmggllccmflaaDoorWArr
import Derived.Test.YtbkmggllccmflaaDoorWZeros
import Derived.Test.YtbkmggllccmflaaDoorWFoot
import Derived.Test.YtbkmggllccmflaaDoorWKept
import Derived.Test.YtbkmggllccmflaaDoorWShare
import Derived.Test.YtbkmggllccmflaaDoorWN
import Derived.Test.YtbkmggllccmflaaDoorWFootNe
import Derived.Test.YtbkmggllccmflaaDoorWAt
import Derived.Test.YtbkmggllccmflaaDoorWEqStruct
import Derived.Test.YtbkmggllccmflaaDoorWRepsOne
import Derived.Test.YtbkmggllccmflaaDoorWInv
import Derived.Test.YtbkmggllccmflaaDoorWInvWords
import Derived.Test.YtbkmggllccmflaaDoorWGuard
import Derived.Test.YtbkmggllccmflaaDoorWNEv
import Derived.Test.YtbkmggllccmflaaDoorWMore
import Derived.Shelf.Strings.SlTrimAscii
import Derived.Test.YtbkmggllccmflaaDoorL
set_option linter.unusedVariables false
set_option linter.unusedSimpArgs false
namespace Go.Proofs.YtbkmggllccmflaaDoor.A
open Go.RowKit Go.Proofs.YtbkmggllccmflaaDoorW.PrintWords Go.Proofs.YtbkmggllccmflaaDoorW.PrintLast Go.Proofs.YtbkmggllccmflaaDoorW.PrintMore

/-! ### strings.Trim at an ASCII cutset: the shelf's contract -/
def strings_Trim.f (a0 : ByteArray) (a1 : ByteArray) : Option (ByteArray) :=
  if a0.size ≤ 9223372036854775807 ∧ a1.size < 4294967281 ∧ (a1.data.toList.all fun b => decide (b.toNat < 128)) = true then some ⟨(Lib.trimS a0.data.toList a1.data.toList).toArray⟩ else none
theorem strings_Trim.calls (a0 : ByteArray) (a1 : ByteArray) (r : ByteArray) (w : World) (h : strings_Trim.f a0 a1 = some r) :
    Calls Tryd.prog 13 #[.string a0, .string a1] w fun e w' => e = .returned (.string r) ∧ Below w.heap.size w w' := by
  unfold strings_Trim.f at h
  split at h
  · obtain ⟨h1, h2, h3⟩ := ‹_ ∧ _›
    obtain rfl := Option.some.inj h
    exact Any.strings_Trim_laid Tryd.lays160 (by kernel_rfl) a0 a1 w h1 h2 (ascii_of_all h3)
  · cases h

end Go.Proofs.YtbkmggllccmflaaDoor.A
