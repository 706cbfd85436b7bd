/- Contracts of some functions of the program and of Go's library, in the form in which the print of the seat uses them; no statement of the program's laws. -/
import Derived.Test.YtclomifkpciefaaProg
import Derived.Below
import Derived.Deep.Draws
import Derived.Deep.AppendLies
import Derived.Maps.AppendAt
import Derived.OwnWalk
import Derived.Laws.BytesArg
import Derived.Laws.MakeOwn
import Derived.Laws.OwnMore
import Derived.Deep.OwnRows
import Derived.Tactics
import Derived.Lib.ConvBytes
import Derived.Laws.Slices
import Derived.WalkKit
import Derived.KernelRfl
import Derived.RowKit3
import Derived.Deep.LoopGhost
import Derived.Deep.QuietTactic
import Derived.BigQuiet
import Derived.WideLaws
import Derived.Deep.DeepCutAuto
import Derived.Deep.CutBlock
import Derived.Deep.RegionHeld3
import Derived.Laws.Rows
import Derived.Lib.AppendStr
import Derived.ArgAppend
import Derived.Laws.IdiomCopy
import Derived.OrdersHeld
import Derived.Laws.BitsLemmas
import Derived.RowKit
import Derived.Test.YtclomifkpciefaaWWords
import Derived.Test.YtclomifkpciefaaWLast
import Derived.Test.YtclomifkpciefaaWTab
import Derived.Test.YtclomifkpciefaaWFour
import Derived.Test.YtclomifkpciefaaWQPut
import Derived.Test.YtclomifkpciefaaWApart
import Derived.Test.YtclomifkpciefaaWArr
import Derived.Test.YtclomifkpciefaaWZeros
import Derived.Test.YtclomifkpciefaaWFoot
import Derived.Test.YtclomifkpciefaaWKept
import Derived.Test.YtclomifkpciefaaWShare
import Derived.Test.YtclomifkpciefaaWN
import Derived.Test.YtclomifkpciefaaWFootNe
import Derived.Test.YtclomifkpciefaaWAt
import Derived.Test.YtclomifkpciefaaWEqStruct
import Derived.Test.YtclomifkpciefaaWRepsOne
import Derived.Test.YtclomifkpciefaaWInv
import Derived.Test.YtclomifkpciefaaWInvWords
import Derived.Test.YtclomifkpciefaaWGuard
import Derived.Test.YtclomifkpciefaaWNEv
import Derived.Test.YtclomifkpciefaaWMore
import Derived.Shelf.Strings.Repeat
import Derived.Test.YtclomifkpciefaaL
set_option linter.unusedVariables false
set_option linter.unusedSimpArgs false
namespace Go.Proofs.Ytclomifkpciefaa.F
open Go.RowKit Go.Proofs.YtclomifkpciefaaW.PrintWords Go.Proofs.YtclomifkpciefaaW.PrintLast Go.Proofs.YtclomifkpciefaaW.PrintMore

/-! ### strings.Repeat: the shelf's contract -/
theorem extraR : Builder.Extra Try.prog Try.lays105_ren where
  sizeBuilder := by kernel_rfl
  liesBuilder := by kernel_rfl
  t5 := Try.lays105.t5
  a5 := Try.lays105.a5
  z5 := Try.lays105.z5
  v5 := Try.lays105.v5
  infoByte := by kernel_rfl
  cellsByte := by kernel_rfl
  sizeByte := by kernel_rfl
  neB5 := by decide
def strings_Repeat.f (a0 : ByteArray) (a1 : Int) : Option (ByteArray) :=
  if a0.size ≤ 1000000 ∧ 0 ≤ a1 ∧ a1 ≤ 1000000 then some ⟨(Lib.repeatL a0.data.toList a1.toNat).toArray⟩ else none
theorem strings_Repeat.calls (a0 : ByteArray) (a1 : Int) (r : ByteArray) (w : World) (h : strings_Repeat.f a0 a1 = some r) :
    Calls Try.prog 72 #[.string a0, .int .i64 a1] w fun e w' => e = .returned (.string r) ∧ Below w.heap.size w w' := by
  unfold strings_Repeat.f at h
  split at h
  · obtain ⟨h1, h2, h3⟩ := ‹_ ∧ _›
    obtain rfl := Option.some.inj h
    obtain ⟨c, rfl⟩ := Int.eq_ofNat_of_zero_le h2
    have hm : a0.size * c ≤ 1000000 * 1000000 := Nat.mul_le_mul h1 (by omega)
    exact Any.strings_Repeat Try.lays105 extraR a0 c w (by omega) (by omega)
  · cases h

end Go.Proofs.Ytclomifkpciefaa.F
