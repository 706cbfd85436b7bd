/- Contracts of some functions of the program and of Go's library, in the form in which the print of the seat uses them; no statement of the program's laws. -/
import Derived.Test.YtddkffdjondjnaaGreatDoorProg
import Derived.Below
import Derived.Deep.Draws
import Derived.Deep.AppendLies
import Derived.Maps.AppendAt
import Derived.OwnWalk
import Derived.Laws.BytesArg
import Derived.Laws.MakeOwn
import Derived.Laws.OwnMore
import Derived.Deep.OwnRows
import Derived.Tactics
import Derived.Lib.ConvBytes
import Derived.Laws.Slices
import Derived.WalkKit
import Derived.KernelRfl
import Derived.RowKit3
import Derived.Deep.LoopGhost
import Derived.Deep.QuietTactic
import Derived.BigQuiet
import Derived.WideLaws
import Derived.Deep.DeepCutAuto
import Derived.Deep.CutBlock
import Derived.Deep.RegionHeld3
import Derived.Laws.Rows
import Derived.Lib.AppendStr
import Derived.ArgAppend
import Derived.Laws.IdiomCopy
import Derived.OrdersHeld
import Derived.Laws.BitsLemmas
import Derived.RowKit
import Derived.Test.YtddkffdjondjnaaGreatDoorWWords
import Derived.Test.YtddkffdjondjnaaGreatDoorWLast
import Derived.Test.YtddkffdjondjnaaGreatDoorWTab
import Derived.Test.YtddkffdjondjnaaGreatDoorWFour
import Derived.Test.YtddkffdjondjnaaGreatDoorWQPut
import Derived.Test.YtddkffdjondjnaaGreatDoorWApart
import Derived.Test.YtddkffdjondjnaaGreatDoorWArr
import Derived.Test.YtddkffdjondjnaaGreatDoorWZeros
import Derived.Test.YtddkffdjondjnaaGreatDoorWFoot
import Derived.Test.YtddkffdjondjnaaGreatDoorWKept
import Derived.Test.YtddkffdjondjnaaGreatDoorWShare
import Derived.Test.YtddkffdjondjnaaGreatDoorWN
import Derived.Test.YtddkffdjondjnaaGreatDoorWFootNe
import Derived.Test.YtddkffdjondjnaaGreatDoorWAt
import Derived.Test.YtddkffdjondjnaaGreatDoorWEqStruct
import Derived.Test.YtddkffdjondjnaaGreatDoorWRepsOne
import Derived.Test.YtddkffdjondjnaaGreatDoorWInv
import Derived.Test.YtddkffdjondjnaaGreatDoorWInvWords
import Derived.Test.YtddkffdjondjnaaGreatDoorWGuard
import Derived.Test.YtddkffdjondjnaaGreatDoorWNEv
import Derived.Test.YtddkffdjondjnaaGreatDoorWMore
import Derived.Shelf.Strings.SlTrimAscii
import Derived.Test.YtddkffdjondjnaaGreatDoorL
import Derived.Shelf.Strings.Repeat
import Derived.Shelf.Abstract
set_option linter.unusedVariables false
set_option linter.unusedSimpArgs false
namespace Go.Proofs.YtddkffdjondjnaaGreatDoor.A
open Go.RowKit Go.Proofs.YtddkffdjondjnaaGreatDoorW.PrintWords Go.Proofs.YtddkffdjondjnaaGreatDoorW.PrintLast Go.Proofs.YtddkffdjondjnaaGreatDoorW.PrintMore

/-! ### strings.Trim at an ASCII cutset: the shelf's contract -/
def strings_Trim.f (a0 : ByteArray) (a1 : ByteArray) : Option (ByteArray) :=
  if a0.size ≤ 9223372036854775807 ∧ a1.size < 4294967281 ∧ (a1.data.toList.all fun b => decide (b.toNat < 128)) = true then some ⟨(Lib.trimS a0.data.toList a1.data.toList).toArray⟩ else none
theorem strings_Trim.calls (a0 : ByteArray) (a1 : ByteArray) (r : ByteArray) (w : World) (h : strings_Trim.f a0 a1 = some r) :
    Calls Tryz.prog 76 #[.string a0, .string a1] w fun e w' => e = .returned (.string r) ∧ Below w.heap.size w w' := by
  unfold strings_Trim.f at h
  split at h
  · obtain ⟨h1, h2, h3⟩ := ‹_ ∧ _›
    obtain rfl := Option.some.inj h
    exact Any.strings_Trim_laid Tryz.lays160 (by kernel_rfl) a0 a1 w h1 h2 (ascii_of_all h3)
  · cases h

/-! ### impl.turned: a text as bytes, one byte written, and back -/
def impl_turned.f (a0 : ByteArray) (a1 : Int) : Option (ByteArray) :=
  if 0 ≤ a1 ∧ a1 < (a0.size : Int) ∧ a0.size ≤ 9223372036854775807 then some (strOfNums ((bytesOf a0).set a1.toNat ((97 - bt a0 a1) % 256))) else none
theorem reads_set {w : World} {g n k : Nat} {xs : List Int} (h : ReadsInt w .u8 (some ⟨g, 0, none⟩) n xs) (hk : k < n) (x : Int) {v : Value} (hc : w.cell? ⟨g, k, none⟩ = some v) :
    ReadsInt (w.setCell ⟨g, k, none⟩ (.int .u8 x)) .u8 (some ⟨g, 0, none⟩) n (xs.set k x) := by
  obtain ⟨h1, h2, h3⟩ := h
  refine ⟨by rw [List.length_set]; exact h1, h2, fun hn => ⟨_, rfl, fun j hj => ?_⟩⟩
  obtain ⟨ad, he, hcell⟩ := h3 hn
  obtain rfl := (Option.some.inj he).symm
  have hj' := hcell j hj
  rw [add_plain] at hj' ⊢
  by_cases e : j = k
  · subst e
    rw [World.cell?_setCell_same _ _ _ hc, List.getD, List.getElem?_set_self (by omega)]; rfl
  · rw [World.cell?_setCell_other _ _ _ _ (by first | (simp; done) | (simp; omega)), hj', List.getD, List.getD, List.getElem?_set_ne (by omega)]
theorem bytes_free (w : World) (e : TypeId) (s : ByteArray) (j : Nat) (hj : j < s.size) : (Lib.bytesWorld w e s).frozen? ⟨w.heap.size, j, none⟩ = false := by
  have hs : s.size ≤ (Lib.bytesCells w e s).size := by
    unfold Lib.bytesCells
    rw [Array.size_append, Array.size_map]
    exact Nat.le_add_right _ _
  simp [World.frozen?, Lib.bytesWorld_at_new]
  omega
set_option maxHeartbeats 8000000 in
set_option maxRecDepth 100000 in
theorem impl_turned.walk (s r : ByteArray) (k cap : Nat) (b : Int) (w W1 : World) (hk : (k : Int) < (s.size : Int)) (hs : (s.size : Int) ≤ 9223372036854775807)
    (hconv : (convert 9 22 (.string s)).run Tryz.prog w = .ok (.slice (some ⟨w.heap.size, 0, none⟩) s.size cap) W1)
    (hc : W1.cell? ⟨w.heap.size, k, none⟩ = some (.int .u8 b)) (hz : W1.frozen? ⟨w.heap.size, k, none⟩ = false)
    (hback : (convert 22 9 (.slice (some ⟨w.heap.size, 0, none⟩) s.size cap)).run Tryz.prog (W1.setCell ⟨w.heap.size, k, none⟩ (.int .u8 ((97 - b) % 256))) = .ok (.string r) (W1.setCell ⟨w.heap.size, k, none⟩ (.int .u8 ((97 - b) % 256)))) :
    Calls Tryz.prog 78 #[.string s, .int .i64 (k : Int)] w fun e w' => e = .returned (.string r) ∧ w' = W1.setCell ⟨w.heap.size, k, none⟩ (.int .u8 ((97 - b) % 256)) := by
  have h0 : decide ((0 : Int) ≤ (k : Int)) = true := by simp
  have h1 : decide ((k : Int) < (s.size : Int)) = true := decide_eq_true hk
  go_enter Tryz.func78, Tryz.ntmps78
  go_wp2
  go_ret
  exact ⟨rfl, rfl⟩
theorem impl_turned.calls (a0 : ByteArray) (a1 : Int) (r : ByteArray) (w : World) (h : impl_turned.f a0 a1 = some r) :
    Calls Tryz.prog 78 #[.string a0, .int .i64 a1] w fun e w' => e = .returned (.string r) ∧ Below w.heap.size w w' := by
  unfold impl_turned.f at h
  split at h
  · obtain ⟨h1, h2, h3⟩ := ‹_ ∧ _›
    obtain rfl := Option.some.inj h
    obtain ⟨k, rfl⟩ := Int.eq_ofNat_of_zero_le h1
    have hk : k < a0.size := by omega
    have hr := bytes_reads w 5 a0 h3
    obtain ⟨ad, he, hcell⟩ := hr.2.2 (by omega)
    obtain rfl := (Option.some.inj he).symm
    have hc := hcell k hk
    rw [add_plain] at hc
    have hb : (bytesOf a0).getD k 0 = bt a0 (k : Int) := by rw [← rd_bytesOf]; rfl
    rw [hb] at hc
    have hset := reads_set hr hk ((97 - bt a0 (k : Int)) % 256) hc
    refine (impl_turned.walk a0 _ k _ (bt a0 (k : Int)) w _ h2 (by omega) (print_bytes 9 22 5 Tryz.underlying9 Tryz.underlying22 Tryz.underlying5 a0 w) hc (bytes_free w _ a0 k hk) (string_of_reads Tryz.underlying22 Tryz.underlying5 Tryz.underlying9 hset)).mono ?_
    rintro e w' ⟨rfl, rfl⟩
    exact ⟨rfl, (bytes_below (Below.refl _ w) (Nat.le_refl _) _ a0).setCell (Nat.le_refl _) _⟩
  · cases h

/-! ### strings.Repeat: the shelf's contract -/
theorem extraR : Builder.Extra Tryz.prog Tryz.lays105_ren where
  sizeBuilder := by kernel_rfl
  liesBuilder := by kernel_rfl
  t5 := Tryz.lays105.t5
  a5 := Tryz.lays105.a5
  z5 := Tryz.lays105.z5
  v5 := Tryz.lays105.v5
  infoByte := by kernel_rfl
  cellsByte := by kernel_rfl
  sizeByte := by kernel_rfl
  neB5 := by decide
def strings_Repeat.f (a0 : ByteArray) (a1 : Int) : Option (ByteArray) :=
  if a0.size ≤ 1000000 ∧ 0 ≤ a1 ∧ a1 ≤ 1000000 then some ⟨(Lib.repeatL a0.data.toList a1.toNat).toArray⟩ else none
theorem strings_Repeat.calls (a0 : ByteArray) (a1 : Int) (r : ByteArray) (w : World) (h : strings_Repeat.f a0 a1 = some r) :
    Calls Tryz.prog 58 #[.string a0, .int .i64 a1] w fun e w' => e = .returned (.string r) ∧ Below w.heap.size w w' := by
  unfold strings_Repeat.f at h
  split at h
  · obtain ⟨h1, h2, h3⟩ := ‹_ ∧ _›
    obtain rfl := Option.some.inj h
    obtain ⟨c, rfl⟩ := Int.eq_ofNat_of_zero_le h2
    have hm : a0.size * c ≤ 1000000 * 1000000 := Nat.mul_le_mul h1 (by omega)
    exact Any.strings_Repeat Tryz.lays105 extraR a0 c w (by omega) (by omega)
  · cases h

/-! ### slices.IndexFunc, slices.ContainsFunc over whole numbers, at a function value that draws at most -/
set_option maxHeartbeats 8000000 in
set_option maxRecDepth 100000 in
theorem slices_IndexFunc_ints (g : Nat) (p : Int → Bool) (A0 : Option Addr) (c0 : Nat) (l0 : List Int) (w : World) (hr0 : Kd.C (Kd.int .i64) w A0 l0.length l0) (hc0 : l0.length ≤ c0)
    (eg : ∀ args w, (callFunc g args).run Tryz.prog w = .ok (.enter g args) w)
    (hp : ∀ (x : Int) (q : Nat), Calls Tryz.prog g #[.int .i64 x] (w.drewN q) fun e w' => e = .returned (.bool (p x)) ∧ ∃ q', w' = (w.drewN q).drewN q') :
    Calls Tryz.prog 90 #[.slice A0 l0.length c0, .func (.func g) #[] #[]] w fun e w' => ∃ i : Int, e = .returned (.int .i64 i) ∧ decide (i ≥ 0) = l0.any p ∧ Drawn0 w w' := by
  have HR0 := Aside0.mk hr0
  have HP := Aside0.mk hp
  clear hr0 hp
  go_enter Tryz.func90, Tryz.ntmps90
  go_wp2
  go_loopg [8] l0.length (fun kq v8 w' => ∃ kk : Nat, kk ≤ l0.length ∧ l0.length - kk ≤ kq ∧ v8 = .int .i64 kk ∧ Drawn0 w w' ∧ Aside0 ((l0.take kk).any p = false))
  case atStart => exact ⟨0, Nat.zero_le _, by omega, rfl, Drawn0.refl _, ⟨rfl⟩⟩
  case round =>
    obtain ⟨kk, hkk, hgg, rfl, ⟨m1, rfl⟩, HA⟩ := hrel
    by_cases hlt : (kk : Int) < (l0.length : Int)
    · have c1 : decide ((kk : Int) < (l0.length : Int)) = true := decide_eq_true hlt
      obtain ⟨ad, e, hx⟩ := Kd.at_int HR0.out (kk : Int) (by omega) hlt
      cases e
      have p5 : (0 ≤ (kk : Int)) = True := eq_true (by omega)
      have q5 : ((kk : Int) < (l0.length : Int)) = True := eq_true hlt
      obtain ⟨y, hy⟩ : ∃ y : Int, rd l0 (kk : Int) = y := ⟨_, rfl⟩
      have hget : l0[kk]? = some y := by
        have : kk < l0.length := by omega
        rw [List.getElem?_eq_getElem this, ← hy]
        simp [rd, List.getD, this]
      rw [hy, Int.toNat_natCast] at hx
      have Hy := Aside0.mk hy
      clear hy
      have ht : (l0.take (kk + 1)).any p = ((l0.take kk).any p || p y) := by rw [List.take_add_one, hget, List.any_append]; simp
      rw [HA.out, Bool.false_or] at ht
      have HT := Aside0.mk ht
      clear ht
      have hcall := HP.out y
      cases hq : p y with
      | true =>
        rw [hq] at hcall
        go_wp2_with fail
        refine (hcall _).mono ?_
        rintro e w' ⟨rfl, nd, rfl⟩
        go_wp2
        go_ret
        refine ⟨_, rfl, ?_, ⟨⟨_, rfl⟩⟩⟩
        rw [decide_eq_true (by omega)]
        have h1 := HT.out
        rw [hq] at h1
        have := List.any_eq_true.1 h1
        obtain ⟨z, hz, hpz⟩ := this
        exact (List.any_eq_true.2 ⟨z, List.mem_of_mem_take hz, hpz⟩).symm
      | false =>
        rw [hq] at hcall
        go_wp2_with fail
        refine (hcall _).mono ?_
        rintro e w' ⟨rfl, nd, rfl⟩
        go_wp2
        go_roundg (l0.length - (kk + 1))
        case measure => omega
        case rel => exact ⟨kk + 1, by omega, by omega, by have h_ := HR0.out.2.1; rw [show wrap64 ((kk : Int) + 1) = ((kk + 1 : Nat) : Int) by unfold wrap64; omega], ⟨⟨_, rfl⟩⟩, ⟨by rw [HT.out, hq]⟩⟩
    · have c1 : decide ((kk : Int) < (l0.length : Int)) = false := decide_eq_false hlt
      go_wp2
      go_ret
      refine ⟨_, rfl, ?_, ⟨⟨_, rfl⟩⟩⟩
      have h1 := HA.out
      rw [List.take_of_length_le (by omega)] at h1
      rw [h1]; rfl
set_option maxHeartbeats 8000000 in
set_option maxRecDepth 100000 in
theorem slices_ContainsFunc_ints (g : Nat) (p : Int → Bool) (A0 : Option Addr) (c0 : Nat) (l0 : List Int) (w : World) (hr0 : Kd.C (Kd.int .i64) w A0 l0.length l0) (hc0 : l0.length ≤ c0)
    (eg : ∀ args w, (callFunc g args).run Tryz.prog w = .ok (.enter g args) w)
    (hp : ∀ (x : Int) (q : Nat), Calls Tryz.prog g #[.int .i64 x] (w.drewN q) fun e w' => e = .returned (.bool (p x)) ∧ ∃ q', w' = (w.drewN q).drewN q') :
    Calls Tryz.prog 61 #[.slice A0 l0.length c0, .func (.func g) #[] #[]] w fun e w' => e = .returned (.bool (l0.any p)) ∧ Drawn0 w w' := by
  have HR0 := Aside0.mk hr0
  have HP := Aside0.mk hp
  clear hr0 hp
  go_enter Tryz.func61, Tryz.ntmps61
  go_wp2_with (go_at_call 90; refine (slices_IndexFunc_ints g p A0 c0 l0 _ HR0.out hc0 eg HP.out).mono ?_; rintro e w' ⟨i, rfl, hi, ⟨nd, rfl⟩⟩)
  go_ret
  exact ⟨rfl, ⟨⟨_, rfl⟩⟩⟩

end Go.Proofs.YtddkffdjondjnaaGreatDoor.A
