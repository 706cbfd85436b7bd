/- Contracts of some functions of the program and of Go's library, in the form in which the print of the seat uses them; no statement of the program's laws. -/
import Derived.Test.YtancjdpdinbddaaDoorProg
import Derived.Below
import Derived.Deep.Draws
import Derived.Deep.AppendLies
import Derived.Maps.AppendAt
import Derived.OwnWalk
import Derived.Laws.BytesArg
import Derived.Laws.MakeOwn
import Derived.Laws.OwnMore
import Derived.Deep.OwnRows
import Derived.Tactics
import Derived.Lib.ConvBytes
import Derived.Laws.Slices
import Derived.WalkKit
import Derived.KernelRfl
import Derived.RowKit3
import Derived.Deep.LoopGhost
import Derived.Deep.QuietTactic
import Derived.BigQuiet
import Derived.WideLaws
import Derived.Deep.DeepCutAuto
import Derived.Deep.CutBlock
import Derived.Deep.RegionHeld3
import Derived.Laws.Rows
import Derived.Lib.AppendStr
import Derived.ArgAppend
import Derived.Laws.IdiomCopy
import Derived.OrdersHeld
import Derived.Laws.BitsLemmas
import Derived.RowKit
import Derived.Test.YtancjdpdinbddaaDoorWWords
import Derived.Test.YtancjdpdinbddaaDoorWLast
import Derived.Test.YtancjdpdinbddaaDoorWTab
import Derived.Test.YtancjdpdinbddaaDoorWFour
import Derived.Test.YtancjdpdinbddaaDoorWQPut
import Derived.Test.YtancjdpdinbddaaDoorWApart
import Derived.Test.YtancjdpdinbddaaDoorWArr
import Derived.Test.YtancjdpdinbddaaDoorWZeros
import Derived.Test.YtancjdpdinbddaaDoorWFoot
import Derived.Test.YtancjdpdinbddaaDoorWKept
import Derived.Test.YtancjdpdinbddaaDoorWShare
import Derived.Test.YtancjdpdinbddaaDoorWN
import Derived.Test.YtancjdpdinbddaaDoorWFootNe
import Derived.Test.YtancjdpdinbddaaDoorWAt
import Derived.Test.YtancjdpdinbddaaDoorWEqStruct
import Derived.Test.YtancjdpdinbddaaDoorWRepsOne
import Derived.Test.YtancjdpdinbddaaDoorWInv
import Derived.Test.YtancjdpdinbddaaDoorWInvWords
import Derived.Test.YtancjdpdinbddaaDoorWGuard
import Derived.Test.YtancjdpdinbddaaDoorWNEv
import Derived.Test.YtancjdpdinbddaaDoorWMore
import Derived.Shelf.Strings.SlTrimAscii
import Derived.Test.YtancjdpdinbddaaDoorL
set_option linter.unusedVariables false
set_option linter.unusedSimpArgs false
namespace Go.Proofs.YtancjdpdinbddaaDoor.A
open Go.RowKit Go.Proofs.YtancjdpdinbddaaDoorW.PrintWords Go.Proofs.YtancjdpdinbddaaDoorW.PrintLast Go.Proofs.YtancjdpdinbddaaDoorW.PrintMore

/-! ### strings.Trim at an ASCII cutset: the shelf's contract -/
def strings_Trim.f (a0 : ByteArray) (a1 : ByteArray) : Option (ByteArray) :=
  if a0.size ≤ 9223372036854775807 ∧ a1.size < 4294967281 ∧ (a1.data.toList.all fun b => decide (b.toNat < 128)) = true then some ⟨(Lib.trimS a0.data.toList a1.data.toList).toArray⟩ else none
theorem strings_Trim.calls (a0 : ByteArray) (a1 : ByteArray) (r : ByteArray) (w : World) (h : strings_Trim.f a0 a1 = some r) :
    Calls Tryd.prog 35 #[.string a0, .string a1] w fun e w' => e = .returned (.string r) ∧ Below w.heap.size w w' := by
  unfold strings_Trim.f at h
  split at h
  · obtain ⟨h1, h2, h3⟩ := ‹_ ∧ _›
    obtain rfl := Option.some.inj h
    exact Any.strings_Trim_laid Tryd.lays160 (by kernel_rfl) a0 a1 w h1 h2 (ascii_of_all h3)
  · cases h

end Go.Proofs.YtancjdpdinbddaaDoor.A
