/- Contracts of some functions of the program and of Go's library, in the form in which the print of the seat uses them; no statement of the program's laws. -/
import Derived.Test.YtahdlpadcbigaaaDoorProg
import Derived.Below
import Derived.Deep.Draws
import Derived.Deep.AppendLies
import Derived.Maps.AppendAt
import Derived.OwnWalk
import Derived.Laws.BytesArg
import Derived.Laws.MakeOwn
import Derived.Laws.OwnMore
import Derived.Deep.OwnRows
import Derived.Tactics
import Derived.Lib.ConvBytes
import Derived.Laws.Slices
import Derived.WalkKit
import Derived.KernelRfl
import Derived.RowKit3
import Derived.Deep.LoopGhost
import Derived.Deep.QuietTactic
import Derived.BigQuiet
import Derived.WideLaws
import Derived.Deep.DeepCutAuto
import Derived.Deep.CutBlock
import Derived.Deep.RegionHeld3
import Derived.Laws.Rows
import Derived.Lib.AppendStr
import Derived.ArgAppend
import Derived.Laws.IdiomCopy
import Derived.OrdersHeld
import Derived.Laws.BitsLemmas
import Derived.RowKit
import Derived.Test.YtahdlpadcbigaaaDoorWWords
import Derived.Test.YtahdlpadcbigaaaDoorWLast
import Derived.Test.YtahdlpadcbigaaaDoorWTab
import Derived.Test.YtahdlpadcbigaaaDoorWFour
import Derived.Test.YtahdlpadcbigaaaDoorWQPut
import Derived.Test.YtahdlpadcbigaaaDoorWApart
import Derived.Test.YtahdlpadcbigaaaDoorWArr
import Derived.Test.YtahdlpadcbigaaaDoorWZeros
import Derived.Test.YtahdlpadcbigaaaDoorWFoot
import Derived.Test.YtahdlpadcbigaaaDoorWKept
import Derived.Test.YtahdlpadcbigaaaDoorWShare
import Derived.Test.YtahdlpadcbigaaaDoorWN
import Derived.Test.YtahdlpadcbigaaaDoorWFootNe
import Derived.Test.YtahdlpadcbigaaaDoorWAt
import Derived.Test.YtahdlpadcbigaaaDoorWEqStruct
import Derived.Test.YtahdlpadcbigaaaDoorWRepsOne
import Derived.Test.YtahdlpadcbigaaaDoorWInv
import Derived.Test.YtahdlpadcbigaaaDoorWInvWords
import Derived.Test.YtahdlpadcbigaaaDoorWGuard
import Derived.Test.YtahdlpadcbigaaaDoorWNEv
import Derived.Test.YtahdlpadcbigaaaDoorWMore
import Derived.Shelf.Strings.SlTrimAscii
import Derived.Test.YtahdlpadcbigaaaDoorL
import Derived.Shelf.Strings.Count
set_option linter.unusedVariables false
set_option linter.unusedSimpArgs false
namespace Go.Proofs.YtahdlpadcbigaaaDoor.A
open Go.RowKit Go.Proofs.YtahdlpadcbigaaaDoorW.PrintWords Go.Proofs.YtahdlpadcbigaaaDoorW.PrintLast Go.Proofs.YtahdlpadcbigaaaDoorW.PrintMore

/-! ### strings.Trim at an ASCII cutset: the shelf's contract -/
def strings_Trim.f (a0 : ByteArray) (a1 : ByteArray) : Option (ByteArray) :=
  if a0.size ≤ 9223372036854775807 ∧ a1.size < 4294967281 ∧ (a1.data.toList.all fun b => decide (b.toNat < 128)) = true then some ⟨(Lib.trimS a0.data.toList a1.data.toList).toArray⟩ else none
theorem strings_Trim.calls (a0 : ByteArray) (a1 : ByteArray) (r : ByteArray) (w : World) (h : strings_Trim.f a0 a1 = some r) :
    Calls Tryd.prog 37 #[.string a0, .string a1] w fun e w' => e = .returned (.string r) ∧ Below w.heap.size w w' := by
  unfold strings_Trim.f at h
  split at h
  · obtain ⟨h1, h2, h3⟩ := ‹_ ∧ _›
    obtain rfl := Option.some.inj h
    exact Any.strings_Trim_laid Tryd.lays160 (by kernel_rfl) a0 a1 w h1 h2 (ascii_of_all h3)
  · cases h

/-! ### strings.Count at a text of one byte: the shelf's contract -/
def strings_Count.f (a0 : ByteArray) (a1 : ByteArray) : Option (Int) :=
  if a1.size = 1 then some ((Lib.countByte a0.data.toList (a1.data.toList.getD 0 0) : Nat) : Int) else none
theorem strings_Count.calls (a0 : ByteArray) (a1 : ByteArray) (r : Int) (w : World) (h : strings_Count.f a0 a1 = some r) :
    Calls Tryd.prog 31 #[.string a0, .string a1] w fun e w' => e = .returned (.int .i64 r) ∧ Drawn0 w w' := by
  unfold strings_Count.f at h
  split at h
  · obtain rfl := Option.some.inj h
    rename_i hs
    obtain ⟨c, rfl⟩ : ∃ c, a1 = ⟨#[c]⟩ := by
      have hl : a1.data.toList.length = 1 := by simpa using hs
      match hd : a1.data.toList, hl with
      | [c], _ => exact ⟨c, by apply ByteArray.ext; exact Array.toList_inj.1 hd⟩
    refine (Any.strings_Count_one Tryd.lays138 a0 c w).mono ?_
    rintro e w' ⟨rfl, rfl⟩
    exact ⟨rfl, Drawn0.refl _⟩
  · cases h

/-! ### impl.turned: a text as bytes, one byte written, and back -/
def impl_turned.f (a0 : ByteArray) (a1 : Int) : Option (ByteArray) :=
  if 0 ≤ a1 ∧ a1 < (a0.size : Int) ∧ a0.size ≤ 9223372036854775807 then some (strOfNums ((bytesOf a0).set a1.toNat ((97 - bt a0 a1) % 256))) else none
theorem reads_set {w : World} {g n k : Nat} {xs : List Int} (h : ReadsInt w .u8 (some ⟨g, 0, none⟩) n xs) (hk : k < n) (x : Int) {v : Value} (hc : w.cell? ⟨g, k, none⟩ = some v) :
    ReadsInt (w.setCell ⟨g, k, none⟩ (.int .u8 x)) .u8 (some ⟨g, 0, none⟩) n (xs.set k x) := by
  obtain ⟨h1, h2, h3⟩ := h
  refine ⟨by rw [List.length_set]; exact h1, h2, fun hn => ⟨_, rfl, fun j hj => ?_⟩⟩
  obtain ⟨ad, he, hcell⟩ := h3 hn
  obtain rfl := (Option.some.inj he).symm
  have hj' := hcell j hj
  rw [add_plain] at hj' ⊢
  by_cases e : j = k
  · subst e
    rw [World.cell?_setCell_same _ _ _ hc, List.getD, List.getElem?_set_self (by omega)]; rfl
  · rw [World.cell?_setCell_other _ _ _ _ (by first | (simp; done) | (simp; omega)), hj', List.getD, List.getD, List.getElem?_set_ne (by omega)]
theorem bytes_free (w : World) (e : TypeId) (s : ByteArray) (j : Nat) (hj : j < s.size) : (Lib.bytesWorld w e s).frozen? ⟨w.heap.size, j, none⟩ = false := by
  have hs : s.size ≤ (Lib.bytesCells w e s).size := by
    unfold Lib.bytesCells
    rw [Array.size_append, Array.size_map]
    exact Nat.le_add_right _ _
  simp [World.frozen?, Lib.bytesWorld_at_new]
  omega
set_option maxHeartbeats 8000000 in
set_option maxRecDepth 100000 in
theorem impl_turned.walk (s r : ByteArray) (k cap : Nat) (b : Int) (w W1 : World) (hk : (k : Int) < (s.size : Int)) (hs : (s.size : Int) ≤ 9223372036854775807)
    (hconv : (convert 9 55 (.string s)).run Tryd.prog w = .ok (.slice (some ⟨w.heap.size, 0, none⟩) s.size cap) W1)
    (hc : W1.cell? ⟨w.heap.size, k, none⟩ = some (.int .u8 b)) (hz : W1.frozen? ⟨w.heap.size, k, none⟩ = false)
    (hback : (convert 55 9 (.slice (some ⟨w.heap.size, 0, none⟩) s.size cap)).run Tryd.prog (W1.setCell ⟨w.heap.size, k, none⟩ (.int .u8 ((97 - b) % 256))) = .ok (.string r) (W1.setCell ⟨w.heap.size, k, none⟩ (.int .u8 ((97 - b) % 256)))) :
    Calls Tryd.prog 39 #[.string s, .int .i64 (k : Int)] w fun e w' => e = .returned (.string r) ∧ w' = W1.setCell ⟨w.heap.size, k, none⟩ (.int .u8 ((97 - b) % 256)) := by
  have h0 : decide ((0 : Int) ≤ (k : Int)) = true := by simp
  have h1 : decide ((k : Int) < (s.size : Int)) = true := decide_eq_true hk
  go_enter Tryd.func39, Tryd.ntmps39
  go_wp2
  go_ret
  exact ⟨rfl, rfl⟩
theorem impl_turned.calls (a0 : ByteArray) (a1 : Int) (r : ByteArray) (w : World) (h : impl_turned.f a0 a1 = some r) :
    Calls Tryd.prog 39 #[.string a0, .int .i64 a1] w fun e w' => e = .returned (.string r) ∧ Below w.heap.size w w' := by
  unfold impl_turned.f at h
  split at h
  · obtain ⟨h1, h2, h3⟩ := ‹_ ∧ _›
    obtain rfl := Option.some.inj h
    obtain ⟨k, rfl⟩ := Int.eq_ofNat_of_zero_le h1
    have hk : k < a0.size := by omega
    have hr := bytes_reads w 5 a0 h3
    obtain ⟨ad, he, hcell⟩ := hr.2.2 (by omega)
    obtain rfl := (Option.some.inj he).symm
    have hc := hcell k hk
    rw [add_plain] at hc
    have hb : (bytesOf a0).getD k 0 = bt a0 (k : Int) := by rw [← rd_bytesOf]; rfl
    rw [hb] at hc
    have hset := reads_set hr hk ((97 - bt a0 (k : Int)) % 256) hc
    refine (impl_turned.walk a0 _ k _ (bt a0 (k : Int)) w _ h2 (by omega) (print_bytes 9 55 5 Tryd.underlying9 Tryd.underlying55 Tryd.underlying5 a0 w) hc (bytes_free w _ a0 k hk) (string_of_reads Tryd.underlying55 Tryd.underlying5 Tryd.underlying9 hset)).mono ?_
    rintro e w' ⟨rfl, rfl⟩
    exact ⟨rfl, (bytes_below (Below.refl _ w) (Nat.le_refl _) _ a0).setCell (Nat.le_refl _) _⟩
  · cases h

end Go.Proofs.YtahdlpadcbigaaaDoor.A
