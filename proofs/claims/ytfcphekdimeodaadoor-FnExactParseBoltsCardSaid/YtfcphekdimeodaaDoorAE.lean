/- Contracts of some functions of the program and of Go's library, in the form in which the print of the seat uses them; no statement of the program's laws. -/
import Derived.Test.YtfcphekdimeodaaDoorProg
import Derived.Below
import Derived.Deep.Draws
import Derived.Deep.AppendLies
import Derived.Maps.AppendAt
import Derived.OwnWalk
import Derived.Laws.BytesArg
import Derived.Laws.MakeOwn
import Derived.Laws.OwnMore
import Derived.Deep.OwnRows
import Derived.Tactics
import Derived.Lib.ConvBytes
import Derived.Laws.Slices
import Derived.WalkKit
import Derived.KernelRfl
import Derived.RowKit3
import Derived.Deep.LoopGhost
import Derived.Deep.QuietTactic
import Derived.BigQuiet
import Derived.WideLaws
import Derived.Deep.DeepCutAuto
import Derived.Deep.CutBlock
import Derived.Deep.RegionHeld3
import Derived.Laws.Rows
import Derived.Lib.AppendStr
import Derived.ArgAppend
import Derived.Laws.IdiomCopy
import Derived.OrdersHeld
import Derived.Laws.BitsLemmas
import Derived.RowKit
import Derived.Test.YtfcphekdimeodaaDoorWWords
import Derived.Test.YtfcphekdimeodaaDoorWLast
import Derived.Test.YtfcphekdimeodaaDoorWTab
import Derived.Test.YtfcphekdimeodaaDoorWFour
import Derived.Test.YtfcphekdimeodaaDoorWQPut
import Derived.Test.YtfcphekdimeodaaDoorWApart
import Derived.Test.YtfcphekdimeodaaDoorWArr
import Derived.Test.YtfcphekdimeodaaDoorWZeros
import Derived.Test.YtfcphekdimeodaaDoorWFoot
import Derived.Test.YtfcphekdimeodaaDoorWKept
import Derived.Test.YtfcphekdimeodaaDoorWShare
import Derived.Test.YtfcphekdimeodaaDoorWN
import Derived.Test.YtfcphekdimeodaaDoorWFootNe
import Derived.Test.YtfcphekdimeodaaDoorWAt
import Derived.Test.YtfcphekdimeodaaDoorWEqStruct
import Derived.Test.YtfcphekdimeodaaDoorWRepsOne
import Derived.Test.YtfcphekdimeodaaDoorWInv
import Derived.Test.YtfcphekdimeodaaDoorWInvWords
import Derived.Test.YtfcphekdimeodaaDoorWGuard
import Derived.Test.YtfcphekdimeodaaDoorWNEv
import Derived.Test.YtfcphekdimeodaaDoorWMore
import Derived.Shelf.Abstract
import Derived.Shelf.Strings.Split
import Derived.Lib.IndexBytes
import Derived.Test.YtfcphekdimeodaaDoorL
set_option linter.unusedVariables false
set_option linter.unusedSimpArgs false
namespace Go.Proofs.YtfcphekdimeodaaDoor.A
open Go.RowKit Go.Proofs.YtfcphekdimeodaaDoorW.PrintWords Go.Proofs.YtfcphekdimeodaaDoorW.PrintLast Go.Proofs.YtfcphekdimeodaaDoorW.PrintMore

/-! ### slices.IndexFunc, slices.ContainsFunc over whole numbers, at a function value that draws at most -/
set_option maxHeartbeats 8000000 in
set_option maxRecDepth 100000 in
theorem slices_IndexFunc_ints (g : Nat) (p : Int → Bool) (A0 : Option Addr) (c0 : Nat) (l0 : List Int) (w : World) (hr0 : Kd.C (Kd.int .i64) w A0 l0.length l0) (hc0 : l0.length ≤ c0)
    (eg : ∀ args w, (callFunc g args).run Tryd.prog w = .ok (.enter g args) w)
    (hp : ∀ (x : Int) (q : Nat), Calls Tryd.prog g #[.int .i64 x] (w.drewN q) fun e w' => e = .returned (.bool (p x)) ∧ ∃ q', w' = (w.drewN q).drewN q') :
    Calls Tryd.prog 38 #[.slice A0 l0.length c0, .func (.func g) #[] #[]] w fun e w' => ∃ i : Int, e = .returned (.int .i64 i) ∧ decide (i ≥ 0) = l0.any p ∧ Drawn0 w w' := by
  have HR0 := Aside0.mk hr0
  have HP := Aside0.mk hp
  clear hr0 hp
  go_enter Tryd.func38, Tryd.ntmps38
  go_wp2
  go_loopg [8] l0.length (fun kq v8 w' => ∃ kk : Nat, kk ≤ l0.length ∧ l0.length - kk ≤ kq ∧ v8 = .int .i64 kk ∧ Drawn0 w w' ∧ Aside0 ((l0.take kk).any p = false))
  case atStart => exact ⟨0, Nat.zero_le _, by omega, rfl, Drawn0.refl _, ⟨rfl⟩⟩
  case round =>
    obtain ⟨kk, hkk, hgg, rfl, ⟨m1, rfl⟩, HA⟩ := hrel
    by_cases hlt : (kk : Int) < (l0.length : Int)
    · have c1 : decide ((kk : Int) < (l0.length : Int)) = true := decide_eq_true hlt
      obtain ⟨ad, e, hx⟩ := Kd.at_int HR0.out (kk : Int) (by omega) hlt
      cases e
      have p5 : (0 ≤ (kk : Int)) = True := eq_true (by omega)
      have q5 : ((kk : Int) < (l0.length : Int)) = True := eq_true hlt
      obtain ⟨y, hy⟩ : ∃ y : Int, rd l0 (kk : Int) = y := ⟨_, rfl⟩
      have hget : l0[kk]? = some y := by
        have : kk < l0.length := by omega
        rw [List.getElem?_eq_getElem this, ← hy]
        simp [rd, List.getD, this]
      rw [hy, Int.toNat_natCast] at hx
      have Hy := Aside0.mk hy
      clear hy
      have ht : (l0.take (kk + 1)).any p = ((l0.take kk).any p || p y) := by rw [List.take_add_one, hget, List.any_append]; simp
      rw [HA.out, Bool.false_or] at ht
      have HT := Aside0.mk ht
      clear ht
      have hcall := HP.out y
      cases hq : p y with
      | true =>
        rw [hq] at hcall
        go_wp2_with fail
        refine (hcall _).mono ?_
        rintro e w' ⟨rfl, nd, rfl⟩
        go_wp2
        go_ret
        refine ⟨_, rfl, ?_, ⟨⟨_, rfl⟩⟩⟩
        rw [decide_eq_true (by omega)]
        have h1 := HT.out
        rw [hq] at h1
        have := List.any_eq_true.1 h1
        obtain ⟨z, hz, hpz⟩ := this
        exact (List.any_eq_true.2 ⟨z, List.mem_of_mem_take hz, hpz⟩).symm
      | false =>
        rw [hq] at hcall
        go_wp2_with fail
        refine (hcall _).mono ?_
        rintro e w' ⟨rfl, nd, rfl⟩
        go_wp2
        go_roundg (l0.length - (kk + 1))
        case measure => omega
        case rel => exact ⟨kk + 1, by omega, by omega, by have h_ := HR0.out.2.1; rw [show wrap64 ((kk : Int) + 1) = ((kk + 1 : Nat) : Int) by unfold wrap64; omega], ⟨⟨_, rfl⟩⟩, ⟨by rw [HT.out, hq]⟩⟩
    · have c1 : decide ((kk : Int) < (l0.length : Int)) = false := decide_eq_false hlt
      go_wp2
      go_ret
      refine ⟨_, rfl, ?_, ⟨⟨_, rfl⟩⟩⟩
      have h1 := HA.out
      rw [List.take_of_length_le (by omega)] at h1
      rw [h1]; rfl
set_option maxHeartbeats 8000000 in
set_option maxRecDepth 100000 in
theorem slices_ContainsFunc_ints (g : Nat) (p : Int → Bool) (A0 : Option Addr) (c0 : Nat) (l0 : List Int) (w : World) (hr0 : Kd.C (Kd.int .i64) w A0 l0.length l0) (hc0 : l0.length ≤ c0)
    (eg : ∀ args w, (callFunc g args).run Tryd.prog w = .ok (.enter g args) w)
    (hp : ∀ (x : Int) (q : Nat), Calls Tryd.prog g #[.int .i64 x] (w.drewN q) fun e w' => e = .returned (.bool (p x)) ∧ ∃ q', w' = (w.drewN q).drewN q') :
    Calls Tryd.prog 24 #[.slice A0 l0.length c0, .func (.func g) #[] #[]] w fun e w' => e = .returned (.bool (l0.any p)) ∧ Drawn0 w w' := by
  have HR0 := Aside0.mk hr0
  have HP := Aside0.mk hp
  clear hr0 hp
  go_enter Tryd.func24, Tryd.ntmps24
  go_wp2_with (go_at_call 38; refine (slices_IndexFunc_ints g p A0 c0 l0 _ HR0.out hc0 eg HP.out).mono ?_; rintro e w' ⟨i, rfl, hi, ⟨nd, rfl⟩⟩)
  go_ret
  exact ⟨rfl, ⟨⟨_, rfl⟩⟩⟩

/-! ### strings.Split at a separator of one byte: out of the shelf's walk of genSplit and its contracts of Index and Count at one byte -/
def strings_Split.f (a0 a1 : ByteArray) : Option (List ByteArray) := if a0.size < 4294967281 ∧ a1.size = 1 then some (Lib.splitB a1 0 (Lib.countB a0 a1) a0) else none
theorem genSplit_one (s : ByteArray) (c : UInt8) (w : World) (hs : s.size < 4294967281) :
    Calls Tryd.prog 22 #[.string s, .string ⟨#[c]⟩, .int .i64 0, .int .i64 (-1)] w fun e w' =>
      e = .returned (.slice (some ⟨w.heap.size, 0, none⟩) (Lib.splitB ⟨#[c]⟩ 0 (Lib.countB s ⟨#[c]⟩ + 1 - 1) s).length (Lib.countB s ⟨#[c]⟩ + 1)) ∧ w' = w.alloc (.cells (Lib.cellsOf (Lib.splitB ⟨#[c]⟩ 0 (Lib.countB s ⟨#[c]⟩ + 1 - 1) s) (Lib.countB s ⟨#[c]⟩ + 1)) 9) := by
  have h1 : 1 ≤ (⟨#[c]⟩ : ByteArray).size := Nat.le_refl _
  have hle := Lib.countB_le ⟨#[c]⟩ h1 s.size s (Nat.le_refl _)
  have hcount : Lib.countB s ⟨#[c]⟩ = Lib.countByte s.data.toList c := Lib.count_one c s.data.toList
  refine Any.strings_genSplit_core { Tryd.lays146 with } Tryd.lays146.i9 s ⟨#[c]⟩ 0 (-1) (Lib.countB s ⟨#[c]⟩ + 1) w hs h1 (Nat.zero_le _) ?_ ?_ (by decide) (by decide) (by rw [if_pos (by decide)]; omega)
  · intro x cs _
    refine (Any.strings_Index_one { Tryd.lays146 with } x c _).mono ?_
    rintro e w' ⟨rfl, rfl⟩
    exact ⟨congrArg (fun z => Ending.returned (Value.int .i64 z)) (Lib.index_one x.data.toList c).symm, rfl⟩
  · refine (Any.strings_Count_one { Tryd.lays146 with } s c w).mono ?_
    rintro e w' ⟨rfl, rfl⟩
    exact ⟨by rw [hcount], rfl⟩
theorem row_of_alloc (w : World) (l : List ByteArray) (hl : l.length ≤ maxLen) (h0 : 0 < l.length) : Kd.R Kd.string 9 (w.alloc (.cells (l.map Value.string).toArray 9)) w.heap.size (fun _ => True) (.slice (some ⟨w.heap.size, 0, none⟩) l.length l.length) l := by
  refine Kd.R_of_own ?_ (fun _ _ => trivial)
  refine ⟨by rw [encs_length, Nat.mul_one], .inr ⟨w.heap.size, l.length, (l.map Value.string).toArray, rfl, Nat.le_refl _, blk_new w _, Nat.le_refl _, hl, by simp, ?_⟩⟩
  rw [Nat.mul_one, List.take_of_length_le (by simp)]
  rfl
set_option maxHeartbeats 8000000 in
set_option maxRecDepth 100000 in
theorem strings_Split.calls (a0 a1 : ByteArray) (r : List ByteArray) (w : World) (h : strings_Split.f a0 a1 = some r) :
    Calls Tryd.prog 10 #[.string a0, .string a1] w fun e w' => ∃ v0_ : Value, e = .returned (v0_) ∧ Kd.R Kd.string 9 w' w.heap.size (fun _ => True) v0_ r ∧ Below w.heap.size w w' := by
  unfold strings_Split.f at h
  split at h
  · obtain ⟨h1, h2⟩ := ‹_ ∧ _›
    obtain rfl := Option.some.inj h
    obtain ⟨c, rfl⟩ := Lib.one_byte a1 h2
    have hc := genSplit_one a0 c w h1
    have hlen := Lib.splitB_all ⟨#[c]⟩ (Nat.le_refl _) 0 _ a0 rfl
    have hle := Lib.countB_le ⟨#[c]⟩ (Nat.le_refl _) a0.size a0 (Nat.le_refl _)
    have hfull : Lib.cellsOf (Lib.splitB ⟨#[c]⟩ 0 (Lib.countB a0 ⟨#[c]⟩) a0) (Lib.countB a0 ⟨#[c]⟩ + 1) = ((Lib.splitB ⟨#[c]⟩ 0 (Lib.countB a0 ⟨#[c]⟩) a0).map Value.string).toArray := by
      rw [← hlen]; exact Lib.cellsOf_full _
    rw [Nat.add_sub_cancel, hfull] at hc
    rw [← hlen] at hc
    generalize hq : Lib.splitB ⟨#[c]⟩ 0 (Lib.countB a0 ⟨#[c]⟩) a0 = q at *
    have hrow := row_of_alloc w q (by rw [hlen]; unfold maxLen; omega) (by omega)
    have HC := Aside0.mk hc
    have HR := Aside0.mk hrow
    clear hc hrow hlen hle hfull hq
    go_enter Tryd.func10, Tryd.ntmps10
    go_wp2_with (go_at_call 22; refine HC.out.mono ?_; rintro e w' ⟨rfl, rfl⟩)
    go_ret
    exact ⟨_, rfl, HR.out, below_alloc (Below.refl _ w) _⟩
  · cases h

end Go.Proofs.YtfcphekdimeodaaDoor.A
