/- Contracts of some functions of the program and of Go's library, in the form in which the print of the seat uses them; no statement of the program's laws. -/
import Derived.Test.YtpbgloppcenljaaProg
import Derived.Below
import Derived.Deep.Draws
import Derived.Deep.AppendLies
import Derived.Maps.AppendAt
import Derived.OwnWalk
import Derived.Laws.BytesArg
import Derived.Laws.MakeOwn
import Derived.Laws.OwnMore
import Derived.Deep.OwnRows
import Derived.Tactics
import Derived.Lib.ConvBytes
import Derived.Laws.Slices
import Derived.WalkKit
import Derived.KernelRfl
import Derived.RowKit3
import Derived.Deep.LoopGhost
import Derived.Deep.QuietTactic
import Derived.BigQuiet
import Derived.WideLaws
import Derived.Deep.DeepCutAuto
import Derived.Deep.CutBlock
import Derived.Deep.RegionHeld3
import Derived.Laws.Rows
import Derived.Lib.AppendStr
import Derived.ArgAppend
import Derived.Laws.IdiomCopy
import Derived.OrdersHeld
import Derived.Laws.BitsLemmas
import Derived.RowKit
import Derived.Test.YtpbgloppcenljaaWWords
import Derived.Test.YtpbgloppcenljaaWLast
import Derived.Test.YtpbgloppcenljaaWTab
import Derived.Test.YtpbgloppcenljaaWFour
import Derived.Test.YtpbgloppcenljaaWQPut
import Derived.Test.YtpbgloppcenljaaWApart
import Derived.Test.YtpbgloppcenljaaWArr
import Derived.Test.YtpbgloppcenljaaWZeros
import Derived.Test.YtpbgloppcenljaaWFoot
import Derived.Test.YtpbgloppcenljaaWKept
import Derived.Test.YtpbgloppcenljaaWShare
import Derived.Test.YtpbgloppcenljaaWN
import Derived.Test.YtpbgloppcenljaaWFootNe
import Derived.Test.YtpbgloppcenljaaWAt
import Derived.Test.YtpbgloppcenljaaWEqStruct
import Derived.Test.YtpbgloppcenljaaWRepsOne
import Derived.Test.YtpbgloppcenljaaWInv
import Derived.Test.YtpbgloppcenljaaWInvWords
import Derived.Test.YtpbgloppcenljaaWGuard
import Derived.Test.YtpbgloppcenljaaWNEv
import Derived.Test.YtpbgloppcenljaaWMore
import Derived.Shelf.Abstract
set_option linter.unusedVariables false
set_option linter.unusedSimpArgs false
namespace Go.Proofs.Ytpbgloppcenljaa.A
open Go.RowKit Go.Proofs.YtpbgloppcenljaaW.PrintWords Go.Proofs.YtpbgloppcenljaaW.PrintLast Go.Proofs.YtpbgloppcenljaaW.PrintMore

/-! ### slices.IndexFunc, slices.ContainsFunc over whole numbers, at a function value that draws at most -/
set_option maxHeartbeats 8000000 in
set_option maxRecDepth 100000 in
theorem slices_IndexFunc_ints (g : Nat) (p : Int → Bool) (A0 : Option Addr) (c0 : Nat) (l0 : List Int) (w : World) (hr0 : Kd.C (Kd.int .i64) w A0 l0.length l0) (hc0 : l0.length ≤ c0)
    (eg : ∀ args w, (callFunc g args).run Try.prog w = .ok (.enter g args) w)
    (hp : ∀ (x : Int) (q : Nat), Calls Try.prog g #[.int .i64 x] (w.drewN q) fun e w' => e = .returned (.bool (p x)) ∧ ∃ q', w' = (w.drewN q).drewN q') :
    Calls Try.prog 48 #[.slice A0 l0.length c0, .func (.func g) #[] #[]] w fun e w' => ∃ i : Int, e = .returned (.int .i64 i) ∧ decide (i ≥ 0) = l0.any p ∧ Drawn0 w w' := by
  have HR0 := Aside0.mk hr0
  have HP := Aside0.mk hp
  clear hr0 hp
  go_enter Try.func48, Try.ntmps48
  go_wp2
  go_loopg [8] l0.length (fun kq v8 w' => ∃ kk : Nat, kk ≤ l0.length ∧ l0.length - kk ≤ kq ∧ v8 = .int .i64 kk ∧ Drawn0 w w' ∧ Aside0 ((l0.take kk).any p = false))
  case atStart => exact ⟨0, Nat.zero_le _, by omega, rfl, Drawn0.refl _, ⟨rfl⟩⟩
  case round =>
    obtain ⟨kk, hkk, hgg, rfl, ⟨m1, rfl⟩, HA⟩ := hrel
    by_cases hlt : (kk : Int) < (l0.length : Int)
    · have c1 : decide ((kk : Int) < (l0.length : Int)) = true := decide_eq_true hlt
      obtain ⟨ad, e, hx⟩ := Kd.at_int HR0.out (kk : Int) (by omega) hlt
      cases e
      have p5 : (0 ≤ (kk : Int)) = True := eq_true (by omega)
      have q5 : ((kk : Int) < (l0.length : Int)) = True := eq_true hlt
      obtain ⟨y, hy⟩ : ∃ y : Int, rd l0 (kk : Int) = y := ⟨_, rfl⟩
      have hget : l0[kk]? = some y := by
        have : kk < l0.length := by omega
        rw [List.getElem?_eq_getElem this, ← hy]
        simp [rd, List.getD, this]
      rw [hy, Int.toNat_natCast] at hx
      have Hy := Aside0.mk hy
      clear hy
      have ht : (l0.take (kk + 1)).any p = ((l0.take kk).any p || p y) := by rw [List.take_add_one, hget, List.any_append]; simp
      rw [HA.out, Bool.false_or] at ht
      have HT := Aside0.mk ht
      clear ht
      have hcall := HP.out y
      cases hq : p y with
      | true =>
        rw [hq] at hcall
        go_wp2_with fail
        refine (hcall _).mono ?_
        rintro e w' ⟨rfl, nd, rfl⟩
        go_wp2
        go_ret
        refine ⟨_, rfl, ?_, ⟨⟨_, rfl⟩⟩⟩
        rw [decide_eq_true (by omega)]
        have h1 := HT.out
        rw [hq] at h1
        have := List.any_eq_true.1 h1
        obtain ⟨z, hz, hpz⟩ := this
        exact (List.any_eq_true.2 ⟨z, List.mem_of_mem_take hz, hpz⟩).symm
      | false =>
        rw [hq] at hcall
        go_wp2_with fail
        refine (hcall _).mono ?_
        rintro e w' ⟨rfl, nd, rfl⟩
        go_wp2
        go_roundg (l0.length - (kk + 1))
        case measure => omega
        case rel => exact ⟨kk + 1, by omega, by omega, by have h_ := HR0.out.2.1; rw [show wrap64 ((kk : Int) + 1) = ((kk + 1 : Nat) : Int) by unfold wrap64; omega], ⟨⟨_, rfl⟩⟩, ⟨by rw [HT.out, hq]⟩⟩
    · have c1 : decide ((kk : Int) < (l0.length : Int)) = false := decide_eq_false hlt
      go_wp2
      go_ret
      refine ⟨_, rfl, ?_, ⟨⟨_, rfl⟩⟩⟩
      have h1 := HA.out
      rw [List.take_of_length_le (by omega)] at h1
      rw [h1]; rfl
set_option maxHeartbeats 8000000 in
set_option maxRecDepth 100000 in
theorem slices_ContainsFunc_ints (g : Nat) (p : Int → Bool) (A0 : Option Addr) (c0 : Nat) (l0 : List Int) (w : World) (hr0 : Kd.C (Kd.int .i64) w A0 l0.length l0) (hc0 : l0.length ≤ c0)
    (eg : ∀ args w, (callFunc g args).run Try.prog w = .ok (.enter g args) w)
    (hp : ∀ (x : Int) (q : Nat), Calls Try.prog g #[.int .i64 x] (w.drewN q) fun e w' => e = .returned (.bool (p x)) ∧ ∃ q', w' = (w.drewN q).drewN q') :
    Calls Try.prog 37 #[.slice A0 l0.length c0, .func (.func g) #[] #[]] w fun e w' => e = .returned (.bool (l0.any p)) ∧ Drawn0 w w' := by
  have HR0 := Aside0.mk hr0
  have HP := Aside0.mk hp
  clear hr0 hp
  go_enter Try.func37, Try.ntmps37
  go_wp2_with (go_at_call 48; refine (slices_IndexFunc_ints g p A0 c0 l0 _ HR0.out hc0 eg HP.out).mono ?_; rintro e w' ⟨i, rfl, hi, ⟨nd, rfl⟩⟩)
  go_ret
  exact ⟨rfl, ⟨⟨_, rfl⟩⟩⟩

end Go.Proofs.Ytpbgloppcenljaa.A
