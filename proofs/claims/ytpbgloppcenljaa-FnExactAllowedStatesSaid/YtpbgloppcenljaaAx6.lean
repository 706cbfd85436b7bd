-- written by a program of this session's over the kit's print (xp.py)
import Derived.Test.YtpbgloppcenljaaAx0
import Derived.Test.YtpbgloppcenljaaAx4
import Derived.Test.YtpbgloppcenljaaAx5
namespace Go.Proofs.Ytpbgloppcenljaa.A
-- slim
set_option maxHeartbeats 8000000
set_option maxRecDepth 100000
open Go.RowKit Go.Proofs.YtpbgloppcenljaaW.PrintWords Go.Proofs.YtpbgloppcenljaaW.PrintLast Go.Proofs.YtpbgloppcenljaaW.PrintMore
attribute [local go_sem] max2_int min2_int max_two min_two max_three min_three max_four min_four   -- for this text's walks alone
set_option linter.unusedVariables false
set_option linter.unusedSimpArgs false

/-! ### slices.IndexFunc, slices.ContainsFunc over blocks, at a function value that may lay blocks of its own -/
theorem slices_IndexFunc_blocks (g : Nat) (q : Value) (p : S56 → Bool) (A0 : Option Addr) (c0 : Nat) (l0 : List S56) (w : World) (hr0 : Kd.C k56 w A0 l0.length l0) (hc0 : l0.length ≤ c0)
  (eg : ∀ args w, (callFunc g args).run Try.prog w = .ok (.enter g args) w)
  (hp : ∀ (x : S56) (W : World), x ∈ l0 → Below w.heap.size w W → Calls Try.prog g #[.agg #[.int .i64 x.f0, .int .i64 x.f1, .int .i64 x.f2, .int .i64 x.f3], q] W fun e w' => e = .returned (.bool (p x)) ∧ Below w.heap.size w w') :
  Calls Try.prog 49 #[.slice A0 l0.length c0, .func (.func g) #[] #[q]] w fun e w' => ∃ i : Int, e = .returned (.int .i64 i) ∧ decide (i ≥ 0) = l0.any p ∧ Below w.heap.size w w' := by
 have hu56 := Try.underlying56
 have HR0 := Aside0.mk hr0
 have HP := Aside0.mk hp
 clear hr0 hp
 have HB0 := Aside0.mk (Below.refl w.heap.size w)
 go_enter Try.func49, Try.ntmps49
 go_wp2
 go_loopg [8] l0.length (fun kq v8 w' => ∃ kk : Nat, kk ≤ l0.length ∧ l0.length - kk ≤ kq ∧ v8 = .int .i64 kk ∧ Aside0 (Below w.heap.size w w') ∧ Aside0 ((l0.take kk).any p = false))
 case atStart => exact ⟨0, Nat.zero_le _, by omega, rfl, ⟨by repeat (first | exact HB0.out | apply pw_below_drewN | apply below_drew1)⟩, ⟨rfl⟩⟩
 case round =>
  obtain ⟨kk, hkk, hgg, rfl, HB, HA⟩ := hrel
  by_cases hlt : (kk : Int) < (l0.length : Int)
  ·have c1 : decide ((kk : Int) < (l0.length : Int)) = true := decide_eq_true hlt
   obtain ⟨ad, e, hx0, hx1, hx2, hx3⟩ := at_T56 HR0.out (kk : Int) (by omega) hlt
   cases e
   have p5 : (0 ≤ (kk : Int)) = True := eq_true (by omega)
   have q5 : ((kk : Int) < (l0.length : Int)) = True := eq_true hlt
   obtain ⟨y, hy⟩ : ∃ y : S56, rd_T56 l0 (kk : Int) = y := ⟨_, rfl⟩
   have hget : l0[kk]? = some y := by
    have : kk < l0.length := by omega
    rw [List.getElem?_eq_getElem this, ← hy]
    simp [rd_T56, List.getD, this]
   rw [hy] at hx0 hx1 hx2 hx3
   replace hx0 := (HB.out.cell (World.block_lt_of_cell? w _ hx0)).trans hx0
   replace hx1 := (HB.out.cell (World.block_lt_of_cell? w _ hx1)).trans hx1
   replace hx2 := (HB.out.cell (World.block_lt_of_cell? w _ hx2)).trans hx2
   replace hx3 := (HB.out.cell (World.block_lt_of_cell? w _ hx3)).trans hx3
   rw [Int.toNat_natCast] at hx0 hx1 hx2 hx3
   have Hy := Aside0.mk hy
   clear hy
   have hmem : y ∈ l0 := List.mem_of_getElem? hget
   have ht : (l0.take (kk + 1)).any p = ((l0.take kk).any p || p y) := by rw [List.take_add_one, hget, List.any_append]; simp
   rw [HA.out, Bool.false_or] at ht
   have HT := Aside0.mk ht
   clear ht
   have HG := Aside0.mk hget
   clear hget
   have hcall := fun W => HP.out y W hmem
   clear hmem
   cases hq : p y with
   | true =>
    rw [hq] at hcall
    go_wp2_with fail
    refine (hcall _ (by repeat (first | exact HB.out | apply below_alloc | apply pw_below_drewN | apply below_drew1 | exact Below.refl _ _))).mono ?_
    rintro e w' ⟨rfl, hb'⟩
    go_wp2
    go_ret
    refine ⟨_, rfl, ?_, hb'⟩
    rw [decide_eq_true (by omega)]
    have h1 := HT.out
    rw [hq] at h1
    have := List.any_eq_true.1 h1
    obtain ⟨z, hz, hpz⟩ := this
    exact (List.any_eq_true.2 ⟨z, List.mem_of_mem_take hz, hpz⟩).symm
   | false =>
    rw [hq] at hcall
    go_wp2_with fail
    refine (hcall _ (by repeat (first | exact HB.out | apply below_alloc | apply pw_below_drewN | apply below_drew1 | exact Below.refl _ _))).mono ?_
    rintro e w' ⟨rfl, hb'⟩
    go_wp2
    go_roundg (l0.length - (kk + 1))
    case measure => omega
    case rel => exact ⟨kk + 1, by omega, by omega, by have h_ := HR0.out.2.1; rw [show wrap64 ((kk : Int) + 1) = ((kk + 1 : Nat) : Int) by unfold wrap64; omega], ⟨hb'⟩, ⟨by rw [HT.out, hq]⟩⟩
  ·have c1 : decide ((kk : Int) < (l0.length : Int)) = false := decide_eq_false hlt
   go_wp2
   go_ret
   refine ⟨_, rfl, ?_, (by repeat (first | exact HB.out | apply below_alloc | apply pw_below_drewN | apply below_drew1 | exact Below.refl _ _))⟩
   have h1 := HA.out
   rw [List.take_of_length_le (by omega)] at h1
   rw [h1]; rfl
theorem slices_ContainsFunc_blocks (g : Nat) (q : Value) (p : S56 → Bool) (A0 : Option Addr) (c0 : Nat) (l0 : List S56) (w : World) (hr0 : Kd.C k56 w A0 l0.length l0) (hc0 : l0.length ≤ c0)
  (eg : ∀ args w, (callFunc g args).run Try.prog w = .ok (.enter g args) w)
  (hp : ∀ (x : S56) (W : World), x ∈ l0 → Below w.heap.size w W → Calls Try.prog g #[.agg #[.int .i64 x.f0, .int .i64 x.f1, .int .i64 x.f2, .int .i64 x.f3], q] W fun e w' => e = .returned (.bool (p x)) ∧ Below w.heap.size w w') :
  Calls Try.prog 40 #[.slice A0 l0.length c0, .func (.func g) #[] #[q]] w fun e w' => e = .returned (.bool (l0.any p)) ∧ Below w.heap.size w w' := by
 have HR0 := Aside0.mk hr0
 have HP := Aside0.mk hp
 clear hr0 hp
 go_enter Try.func40, Try.ntmps40
 go_wp2_with (go_at_call 49; refine (slices_IndexFunc_blocks g q p A0 c0 l0 _ HR0.out hc0 eg HP.out).mono ?_; rintro e w' ⟨i, rfl, hi, hb⟩)
 go_ret
 exact ⟨rfl, hb⟩
/-! ### impl_AreBolts -/
def isBlk (l0_0 : List Int) (l0_1 : List S56) (x : S56) : Option Bool := impl_Bolts_isBlock.f l0_0 l0_1 x.f0 x.f1 x.f2 x.f3
def impl_AreBolts.f (k : Nat) (l0_0 : List Int) (l0_1 : List S56) : Option Bool := (impl_in.f (l0_0.length : Int) 1 6).bind fun t => if t = true then (if (l0_1.length : Int) > 40 then some false else (if (l0_0.any fun n => !(decide (2 ≤ n ∧ n ≤ 5))) = true then some false else ((impl_product.f k l0_0).bind fun m => if m ≤ 1000 then (if (l0_1.all fun x => (isBlk l0_0 l0_1 x).isSome) = true then some (!(l0_1.any fun x => !((isBlk l0_0 l0_1 x).getD false))) else none) else some false))) else some false
theorem impl_AreBolts.mono : ∀ a0 a1 k, LeO (impl_AreBolts.f k a0 a1) (impl_AreBolts.f (k + 1) a0 a1) := by
 intro a0 a1 k
 unfold impl_AreBolts.f
 repeat' first
  | (with_reducible exact impl_product.mono _ _)
  | (with_reducible exact LeO.refl _)
  | (with_reducible exact LeO.none _)
  | (with_reducible refine LeO.ite ?_ ?_)
  | (with_reducible refine LeO.bind ?_ (fun _ => ?_))
theorem in_valA (n a b : Int) : impl_in.f n a b = some (decide (a ≤ n ∧ n ≤ b)) := by
 unfold impl_in.f
 by_cases h : n ≥ a
 ·rw [if_pos h]; have h' : a ≤ n := h; simp [h']
 ·rw [if_neg h]; have h' : ¬ a ≤ n := h; simp [h']
theorem areBolts_pred1 (x : Int) (w : World) : Calls Try.prog 38 #[.int .i64 x] w fun e w' => e = .returned (.bool (!(decide (2 ≤ x ∧ x ≤ 5)))) ∧ Drawn0 w w' := by
 go_enter Try.func38, Try.ntmps38
 go_wp2_with (go_at_call 36; refine (impl_in.calls x 2 5 _ _ (in_valA x 2 5)).mono ?_; rintro e w' ⟨rfl, ⟨nd, rfl⟩⟩)
 go_ret
 exact ⟨by first | rfl | (simp; done), by repeat (first | exact Drawn0.refl _ | apply Drawn0.step)⟩
theorem areBolts_pred2 (g : Nat) (A0_0 : Option Addr) (c0_0 : Nat) (l0_0 : List Int) (A0_1 : Option Addr) (c0_1 : Nat) (l0_1 : List S56) (x : S56) (b : Bool) (w : World) (hg : w.heap[g]? = some (.cells #[.slice A0_0 l0_0.length c0_0, .slice A0_1 l0_1.length c0_1] 31 (0, 0)))
  (hr0_0 : Kd.C (Kd.int .i64) w A0_0 l0_0.length l0_0) (hc0_0 : l0_0.length ≤ c0_0) (hr0_1 : Kd.C k56 w A0_1 l0_1.length l0_1) (hc0_1 : l0_1.length ≤ c0_1) (h : isBlk l0_0 l0_1 x = some b) :
  Calls Try.prog 41 #[.agg #[.int .i64 x.f0, .int .i64 x.f1, .int .i64 x.f2, .int .i64 x.f3], .pointer (some ⟨g, 0, none⟩)] w fun e w' => e = .returned (.bool (!b)) ∧ Below w.heap.size w w' := by
 have hu31 := Try.underlying31
 have hu56 := Try.underlying56
 have HR0_0 := Aside0.mk hr0_0
 have HC0_0 := Aside0.mk hc0_0
 have HR0_1 := Aside0.mk hr0_1
 have HC0_1 := Aside0.mk hc0_1
 have BKG := Aside0.mk hg
 have HV := Aside0.mk h
 clear hr0_0 hc0_0 hr0_1 hc0_1 hg h
 have HB := Aside0.mk (Below.refl w.heap.size w)
 go_enter Try.func41, Try.ntmps41
 go_upto_region 1 with (first | ((with_reducible refine gate_dst (N := 2) rfl ?_); (try (refine gate_guard (by rfl) ?_; dsimp only)); refine box_event ?hg (N := 2) ?hd (cs := #[.int .i64 x.f0, .int .i64 x.f1, .int .i64 x.f2, .int .i64 x.f3]) (t := 56) ?hr ?_; (case hd => rfl); (case hg => rfl); (case hr => first | (go_simp; done) | (go_simp; rfl)); intro gb hgb w3 hbox hb; have n0_ := Aside0.mk (below_step (by repeat (first | (with_reducible first | exact HB.out | apply below_alloc | apply pw_below_drewN | apply below_drew1) | exact HB.out)) hb); have n1_ := Aside0.mk hbox; have n2_ := Aside0.mk (blk_below (by (with_reducible repeat (first | refine blk_drewN ?_ _ | refine blk_drew ?_ | refine blk_alloc ?_ _)); exact BKG.out) hb); clear HB; clear BKG; have HB := n0_; have BK := n1_; have BKG := n2_; clear n0_ n1_ n2_; clear hb hbox hgb))
 (try simp only [Act.put, List.setIfInBounds_toArray, List.set_cons_zero, List.set_cons_succ])
 have hcz0 : w3.cell? ⟨gb, 0, none⟩ = some (.int .i64 x.f0) := (blk_cell BK.out 0).trans rfl
 have hcz1 : w3.cell? ⟨gb, 1, none⟩ = some (.int .i64 x.f1) := (blk_cell BK.out 1).trans rfl
 have hcz2 : w3.cell? ⟨gb, 2, none⟩ = some (.int .i64 x.f2) := (blk_cell BK.out 2).trans rfl
 have hcz3 : w3.cell? ⟨gb, 3, none⟩ = some (.int .i64 x.f3) := (blk_cell BK.out 3).trans rfl
 have hfz0 := blk_frozen BK.out 0
 have hfz1 := blk_frozen BK.out 1
 have hfz2 := blk_frozen BK.out 2
 have hfz3 := blk_frozen BK.out 3
 have hcg0 : w3.cell? ⟨g, 0, none⟩ = some (.slice A0_0 l0_0.length c0_0) := (blk_cell BKG.out 0).trans rfl
 have hcg1 : w3.cell? ⟨g, 1, none⟩ = some (.slice A0_1 l0_1.length c0_1) := (blk_cell BKG.out 1).trans rfl
 have hfg0 := blk_frozen BKG.out 0
 have hfg1 := blk_frozen BKG.out 1
 go_wp2_with (go_at_call 42; refine (impl_Bolts_isBlock.calls A0_0 c0_0 l0_0 A0_1 c0_1 l0_1 x.f0 x.f1 x.f2 x.f3 b _ (Kd.C_below HR0_0.out (by repeat (first | exact HB.out | apply below_alloc | apply pw_below_drewN | apply below_drew1 | exact Below.refl _ _))) HC0_0.out (Kd.C_below HR0_1.out (by repeat (first | exact HB.out | apply below_alloc | apply pw_below_drewN | apply below_drew1 | exact Below.refl _ _))) HC0_1.out HV.out).mono ?_; rintro e w6 ⟨rfl, hb6⟩)
 go_ret
 exact ⟨by first | rfl | (simp; done), by repeat (first | exact below_step (by repeat (first | exact HB.out | apply below_alloc | apply pw_below_drewN | apply below_drew1 | exact Below.refl _ _)) hb6 | apply pw_below_drewN | apply below_drew1)⟩
theorem impl_AreBolts.calls (k : Nat) (A0_0 : Option Addr) (c0_0 : Nat) (l0_0 : List Int) (A0_1 : Option Addr) (c0_1 : Nat) (l0_1 : List S56) (r : Bool) (w : World) (hr0_0 : Kd.C (Kd.int .i64) w A0_0 l0_0.length l0_0) (hc0_0 : l0_0.length ≤ c0_0) (hr0_1 : Kd.C k56 w A0_1 l0_1.length l0_1) (hc0_1 : l0_1.length ≤ c0_1) (h : impl_AreBolts.f k l0_0 l0_1 = some r) :
  Calls Try.prog 22 #[.agg #[.slice A0_0 l0_0.length c0_0, .slice A0_1 l0_1.length c0_1]] w fun e w' => e = .returned (.bool r) ∧ Below w.heap.size w w' := by
 have hu31 := Try.underlying31
 have hu56 := Try.underlying56
 have HR0_0 := Aside0.mk hr0_0
 have HC0_0 := Aside0.mk hc0_0
 have HR0_1 := Aside0.mk hr0_1
 have HC0_1 := Aside0.mk hc0_1
 clear hr0_0 hc0_0 hr0_1 hc0_1
 have HB := Aside0.mk (Below.refl w.heap.size w)
 have eg1 : ∀ args w, (callFunc 38 args).run Try.prog w = .ok (.enter 38 args) w := by
  intro args w
  exact enters_of Try.func38 (by decide) rfl args w
 have eg2 : ∀ args w, (callFunc 41 args).run Try.prog w = .ok (.enter 41 args) w := by
  intro args w
  exact enters_of Try.func41 (by decide) rfl args w
 have EG2 := Aside0.mk eg2
 clear eg2
 obtain ⟨q, hq⟩ : ∃ q, (l0_0.any fun n => !(decide (2 ≤ n ∧ n ≤ 5))) = q := ⟨_, rfl⟩
 have hcont : ∀ w1, Below w.heap.size w w1 → Calls Try.prog 37 #[.slice A0_0 l0_0.length c0_0, .func (.func 38) #[] #[]] w1 fun e w' => e = .returned (.bool q) ∧ Drawn0 w1 w' := by
  intro w1 hb
  rw [← hq]
  exact slices_ContainsFunc_ints 38 (fun n => !(decide (2 ≤ n ∧ n ≤ 5))) A0_0 c0_0 l0_0 w1 (Kd.C_below HR0_0.out hb) HC0_0.out eg1 (fun x q => (areBolts_pred1 x _).mono fun e w' ⟨h1, ⟨n, h2⟩⟩ => ⟨h1, n, h2⟩)
 have HCONT := Aside0.mk hcont
 clear hcont eg1
 unfold impl_AreBolts.f at h
 rw [hq] at h
 clear hq
 go_enter Try.func22, Try.ntmps22
 go_upto_region 1 with (first | ((with_reducible refine gate_dst (N := 1) rfl ?_); (try (refine gate_guard (by rfl) ?_; dsimp only)); refine box_event ?hg (N := 1) ?hd (cs := #[.slice A0_0 l0_0.length c0_0, .slice A0_1 l0_1.length c0_1]) (t := 31) ?hr ?_; (case hd => rfl); (case hg => rfl); (case hr => first | (go_simp; done) | (go_simp; rfl)); intro gb hgb w3 hbox hb; have n0_ := Aside0.mk (below_step (by repeat (first | (with_reducible first | exact HB.out | apply below_alloc | apply pw_below_drewN | apply below_drew1) | exact HB.out)) hb); have n1_ := Aside0.mk hbox; clear HB; have HB := n0_; have BK := n1_; clear n0_ n1_; clear hb hbox hgb))
 (try simp only [Act.put, List.setIfInBounds_toArray, List.set_cons_zero, List.set_cons_succ])
 have hcz0 : w3.cell? ⟨gb, 0, none⟩ = some (.slice A0_0 l0_0.length c0_0) := (blk_cell BK.out 0).trans rfl
 have hcz1 : w3.cell? ⟨gb, 1, none⟩ = some (.slice A0_1 l0_1.length c0_1) := (blk_cell BK.out 1).trans rfl
 have hfz0 := blk_frozen BK.out 0
 have hfz1 := blk_frozen BK.out 1
 obtain ⟨t, A1, H⟩ := Option.bind_eq_some_iff.mp h
 clear h
 cases t
 ·rw [if_neg (by decide)] at H
  obtain rfl := Option.some.inj H
  go_wp2_with (first | (go_at_call 36; refine (impl_in.calls (l0_0.length : Int) 1 6 false _ A1).mono ?_; rintro e w' ⟨rfl, ⟨nd, rfl⟩⟩))
  go_ret
  exact ⟨rfl, (by repeat (first | exact HB.out | apply below_alloc | apply pw_below_drewN | apply below_drew1 | exact Below.refl _ _))⟩
 rw [if_pos rfl] at H
 by_cases c1 : (l0_1.length : Int) > 40
 ·rw [if_pos c1] at H
  have c1b : decide (40 < (l0_1.length : Int)) = true := decide_eq_true c1
  obtain rfl := Option.some.inj H
  go_wp2_with (first | (go_at_call 36; refine (impl_in.calls (l0_0.length : Int) 1 6 true _ A1).mono ?_; rintro e w' ⟨rfl, ⟨nd, rfl⟩⟩))
  go_ret
  exact ⟨rfl, (by repeat (first | exact HB.out | apply below_alloc | apply pw_below_drewN | apply below_drew1 | exact Below.refl _ _))⟩
 rw [if_neg c1] at H
 have c1b : decide (40 < (l0_1.length : Int)) = false := decide_eq_false c1
 clear c1
 cases q
 case true =>
  rw [if_pos rfl] at H
  obtain rfl := Option.some.inj H
  go_wp2_with (first | (go_at_call 36; refine (impl_in.calls (l0_0.length : Int) 1 6 true _ A1).mono ?_; rintro e w' ⟨rfl, ⟨nd, rfl⟩⟩) | (go_at_call 37; refine (HCONT.out _ (by repeat (first | exact HB.out | apply below_alloc | apply pw_below_drewN | apply below_drew1 | exact Below.refl _ _))).mono ?_; rintro e w' ⟨rfl, ⟨nd2, rfl⟩⟩))
  go_ret
  exact ⟨rfl, (by repeat (first | exact HB.out | apply below_alloc | apply pw_below_drewN | apply below_drew1 | exact Below.refl _ _))⟩
 rw [if_neg (by decide)] at H
 obtain ⟨m, A2, H⟩ := Option.bind_eq_some_iff.mp H
 have A2 := Aside0.mk A2
 by_cases c2 : m ≤ 1000
 ·rw [if_pos c2] at H
  have c2b : decide (m ≤ 1000) = true := decide_eq_true c2
  clear c2
  by_cases c3 : (l0_1.all fun x => (isBlk l0_0 l0_1 x).isSome) = true
  ·rw [if_pos c3] at H
   have C3 := Aside0.mk c3
   clear c3
   obtain rfl := Option.some.inj H
   clear H
   have hpr : ∀ W, Below w3.heap.size w3 W → Calls Try.prog 40 #[.slice A0_1 l0_1.length c0_1, .func (.func 41) #[] #[.pointer (some ⟨gb, 0, none⟩)]] W fun e w' => e = .returned (.bool (l0_1.any fun x => !((isBlk l0_0 l0_1 x).getD false))) ∧ Below W.heap.size W w' := by
    intro W hW
    refine slices_ContainsFunc_blocks 41 _ _ A0_1 c0_1 l0_1 W (Kd.C_below HR0_1.out (below_step HB.out hW)) HC0_1.out EG2.out ?_
    intro x W' hx hW'
    have hs := List.all_eq_true.1 C3.out x hx
    obtain ⟨b, hb⟩ := Option.isSome_iff_exists.1 hs
    rw [hb, Option.getD_some]
    refine (areBolts_pred2 gb A0_0 c0_0 l0_0 A0_1 c0_1 l0_1 x b W' (blk_below (blk_below BK.out hW) hW') (Kd.C_below HR0_0.out (below_step (below_step HB.out hW) hW')) HC0_0.out (Kd.C_below HR0_1.out (below_step (below_step HB.out hW) hW')) HC0_1.out hb).mono ?_
    rintro e w' ⟨rfl, hb'⟩
    exact ⟨rfl, below_step hW' hb'⟩
   have HPR := Aside0.mk hpr
   clear hpr
   go_wp2_with (first | (go_at_call 36; refine (impl_in.calls (l0_0.length : Int) 1 6 true _ A1).mono ?_; rintro e w' ⟨rfl, ⟨nd, rfl⟩⟩) | (go_at_call 37; refine (HCONT.out _ (by repeat (first | exact HB.out | apply below_alloc | apply pw_below_drewN | apply below_drew1 | exact Below.refl _ _))).mono ?_; rintro e w' ⟨rfl, ⟨nd2, rfl⟩⟩) | (go_at_call 39; refine (impl_product.calls k A0_0 c0_0 l0_0 m _ (Kd.C_below HR0_0.out (by repeat (first | exact HB.out | apply below_alloc | apply pw_below_drewN | apply below_drew1 | exact Below.refl _ _))) HC0_0.out A2.out).mono ?_; rintro e w' ⟨rfl, ⟨nd3, rfl⟩⟩) | (go_at_call 40; refine (HPR.out _ (by repeat (first | exact Below.refl _ _ | apply pw_below_drewN | apply below_drew1))).mono ?_; rintro e w7 ⟨rfl, hb7⟩))
   go_ret
   exact ⟨by first | rfl | (simp; done), by repeat (first | exact below_step (by repeat (first | exact HB.out | apply below_alloc | apply pw_below_drewN | apply below_drew1 | exact Below.refl _ _)) hb7 | apply pw_below_drewN | apply below_drew1)⟩
  ·rw [if_neg c3] at H
   cases H
 ·rw [if_neg c2] at H
  have c2b : decide (m ≤ 1000) = false := decide_eq_false c2
  clear c2
  obtain rfl := Option.some.inj H
  go_wp2_with (first | (go_at_call 36; refine (impl_in.calls (l0_0.length : Int) 1 6 true _ A1).mono ?_; rintro e w' ⟨rfl, ⟨nd, rfl⟩⟩) | (go_at_call 37; refine (HCONT.out _ (by repeat (first | exact HB.out | apply below_alloc | apply pw_below_drewN | apply below_drew1 | exact Below.refl _ _))).mono ?_; rintro e w' ⟨rfl, ⟨nd2, rfl⟩⟩) | (go_at_call 39; refine (impl_product.calls k A0_0 c0_0 l0_0 m _ (Kd.C_below HR0_0.out (by repeat (first | exact HB.out | apply below_alloc | apply pw_below_drewN | apply below_drew1 | exact Below.refl _ _))) HC0_0.out A2.out).mono ?_; rintro e w' ⟨rfl, ⟨nd3, rfl⟩⟩))
  go_ret
  exact ⟨rfl, (by repeat (first | exact HB.out | apply below_alloc | apply pw_below_drewN | apply below_drew1 | exact Below.refl _ _))⟩

-- NOT PRINTED: function 50 (slices_IndexFunc_string_string)

-- NOT PRINTED: function 43 (slices_DeleteFunc_string_string)

/-! ### impl_Bolts_allowed -/
def hitB (a1 : ByteArray) (x : S56) : Option Bool := if 0 ≤ x.f0 ∧ x.f0 < (a1.size : Int) then (if wrap64 (wrap64 (bt a1 x.f0) - 48) = x.f1 then (if 0 ≤ x.f2 ∧ x.f2 < (a1.size : Int) then some (decide (wrap64 (wrap64 (bt a1 x.f2) - 48) = x.f3)) else none) else some false) else none
def impl_Bolts_allowed.f (l0_0 : List Int) (l0_1 : List S56) (a1 : ByteArray) : Option Bool := if (l0_1.all fun x => (hitB a1 x).isSome) = true then some (!(l0_1.any fun x => (hitB a1 x).getD false)) else none
theorem allowed_pred (g : Nat) (a1 : ByteArray) (x : S56) (b : Bool) (w : World) (hg : w.heap[g]? = some (.cells #[.string a1] 9 (0, 0))) (h : hitB a1 x = some b) :
  Calls Try.prog 51 #[.agg #[.int .i64 x.f0, .int .i64 x.f1, .int .i64 x.f2, .int .i64 x.f3], .pointer (some ⟨g, 0, none⟩)] w fun e w' => e = .returned (.bool b) ∧ Below w.heap.size w w' := by
 have hu56 := Try.underlying56
 have BKG := Aside0.mk hg
 clear hg
 have HB := Aside0.mk (Below.refl w.heap.size w)
 go_enter Try.func51, Try.ntmps51
 go_upto_region 1 with (first | ((with_reducible refine gate_dst (N := 2) rfl ?_); (try (refine gate_guard (by rfl) ?_; dsimp only)); refine box_event ?hg (N := 2) ?hd (cs := #[.int .i64 x.f0, .int .i64 x.f1, .int .i64 x.f2, .int .i64 x.f3]) (t := 56) ?hr ?_; (case hd => rfl); (case hg => rfl); (case hr => first | (go_simp; done) | (go_simp; rfl)); intro gb hgb w3 hbox hb; have n0_ := Aside0.mk (below_step (by repeat (first | (with_reducible first | exact HB.out | apply below_alloc | apply pw_below_drewN | apply below_drew1) | exact HB.out)) hb); have n1_ := Aside0.mk hbox; have m0_ := Aside0.mk (blk_below (by (with_reducible repeat (first | refine blk_drewN ?_ _ | refine blk_drew ?_ | refine blk_alloc ?_ _)); exact BKG.out) hb); clear HB; have HB := n0_; have BK2 := n1_; clear n0_ n1_; clear BKG; have BKG := m0_; clear m0_; clear hb hbox hgb))
 (try simp only [Act.put, List.setIfInBounds_toArray, List.set_cons_zero, List.set_cons_succ])
 have hcz0 : w3.cell? ⟨gb, 0, none⟩ = some (.int .i64 x.f0) := (blk_cell BK2.out 0).trans rfl
 have hcz1 : w3.cell? ⟨gb, 1, none⟩ = some (.int .i64 x.f1) := (blk_cell BK2.out 1).trans rfl
 have hcz2 : w3.cell? ⟨gb, 2, none⟩ = some (.int .i64 x.f2) := (blk_cell BK2.out 2).trans rfl
 have hcz3 : w3.cell? ⟨gb, 3, none⟩ = some (.int .i64 x.f3) := (blk_cell BK2.out 3).trans rfl
 have hfz0 := blk_frozen BK2.out 0
 have hfz1 := blk_frozen BK2.out 1
 have hfz2 := blk_frozen BK2.out 2
 have hfz3 := blk_frozen BK2.out 3
 have hcg0 : w3.cell? ⟨g, 0, none⟩ = some (.string a1) := (blk_cell BKG.out 0).trans rfl
 have hfg0 := blk_frozen BKG.out 0
 unfold hitB at h
 by_cases c1 : 0 ≤ x.f0 ∧ x.f0 < (a1.size : Int)
 ·rw [if_pos c1] at h
  have p1 : (0 ≤ x.f0) = True := eq_true c1.1
  have q1 : (x.f0 < (a1.size : Int)) = True := eq_true c1.2
  have hx1 := bt_at a1 x.f0
  clear c1
  by_cases c2 : wrap64 (wrap64 (bt a1 x.f0) - 48) = x.f1
  ·rw [if_pos c2] at h
   have c2a : (wrap64 (wrap64 (bt a1 x.f0) - 48) == x.f1) = true := beq_iff_eq.mpr c2
   clear c2
   by_cases c3 : 0 ≤ x.f2 ∧ x.f2 < (a1.size : Int)
   ·rw [if_pos c3] at h
    have p3 : (0 ≤ x.f2) = True := eq_true c3.1
    have q3 : (x.f2 < (a1.size : Int)) = True := eq_true c3.2
    have hx3 := bt_at a1 x.f2
    clear c3
    by_cases c4 : wrap64 (wrap64 (bt a1 x.f2) - 48) = x.f3
    ·rw [decide_eq_true c4] at h
     obtain rfl := Option.some.inj h
     have c4a : (wrap64 (wrap64 (bt a1 x.f2) - 48) == x.f3) = true := beq_iff_eq.mpr c4
     clear c4 h
     repeat (go_quiet (fail); try go_wp2)
     go_ret
     exact ⟨by first | rfl | (simp; done), (by repeat (first | exact HB.out | apply below_alloc | apply pw_below_drewN | apply below_drew1 | exact Below.refl _ _))⟩
    ·rw [decide_eq_false c4] at h
     obtain rfl := Option.some.inj h
     have c4a : (wrap64 (wrap64 (bt a1 x.f2) - 48) == x.f3) = false := beq_eq_false_iff_ne.mpr c4
     clear c4 h
     repeat (go_quiet (fail); try go_wp2)
     go_ret
     exact ⟨by first | rfl | (simp; done), (by repeat (first | exact HB.out | apply below_alloc | apply pw_below_drewN | apply below_drew1 | exact Below.refl _ _))⟩
   ·rw [if_neg c3] at h; cases h
  ·rw [if_neg c2] at h
   have c2a : (wrap64 (wrap64 (bt a1 x.f0) - 48) == x.f1) = false := beq_eq_false_iff_ne.mpr c2
   obtain rfl := Option.some.inj h
   clear c2 h
   repeat (go_quiet (fail); try go_wp2)
   go_ret
   exact ⟨by first | rfl | (simp; done), (by repeat (first | exact HB.out | apply below_alloc | apply pw_below_drewN | apply below_drew1 | exact Below.refl _ _))⟩
 ·rw [if_neg c1] at h; cases h
theorem impl_Bolts_allowed.calls (A0_0 : Option Addr) (c0_0 : Nat) (l0_0 : List Int) (A0_1 : Option Addr) (c0_1 : Nat) (l0_1 : List S56) (a1 : ByteArray) (r : Bool) (w : World) (hr0_0 : Kd.C (Kd.int .i64) w A0_0 l0_0.length l0_0) (hc0_0 : l0_0.length ≤ c0_0) (hr0_1 : Kd.C k56 w A0_1 l0_1.length l0_1) (hc0_1 : l0_1.length ≤ c0_1) (h : impl_Bolts_allowed.f l0_0 l0_1 a1 = some r) :
  Calls Try.prog 45 #[.agg #[.slice A0_0 l0_0.length c0_0, .slice A0_1 l0_1.length c0_1], .string a1] w fun e w' => e = .returned (.bool r) ∧ Below w.heap.size w w' := by
 have hu31 := Try.underlying31
 have hu56 := Try.underlying56
 have HR0_1 := Aside0.mk hr0_1
 have HC0_1 := Aside0.mk hc0_1
 clear hr0_0 hc0_0 hr0_1 hc0_1
 have HB := Aside0.mk (Below.refl w.heap.size w)
 have eg2 : ∀ args w, (callFunc 51 args).run Try.prog w = .ok (.enter 51 args) w := by
  intro args w
  exact enters_of Try.func51 (by decide) rfl args w
 have EG2 := Aside0.mk eg2
 clear eg2
 unfold impl_Bolts_allowed.f at h
 by_cases c3 : (l0_1.all fun x => (hitB a1 x).isSome) = true
 ·rw [if_pos c3] at h
  have C3 := Aside0.mk c3
  obtain rfl := Option.some.inj h
  clear c3 h
  go_enter Try.func45, Try.ntmps45
  go_upto_region 1 with (first | ((with_reducible refine gate_dst (N := 2) rfl ?_); (try (refine gate_guard (by rfl) ?_; dsimp only)); refine box_event ?hg (N := 2) ?hd (cs := #[.slice A0_0 l0_0.length c0_0, .slice A0_1 l0_1.length c0_1]) (t := 31) ?hr ?_; (case hd => rfl); (case hg => rfl); (case hr => first | (go_simp; done) | (go_simp; rfl)); intro gb hgb w3 hbox hb; have n0_ := Aside0.mk (below_step (by repeat (first | (with_reducible first | exact HB.out | apply below_alloc | apply pw_below_drewN | apply below_drew1) | exact HB.out)) hb); have n1_ := Aside0.mk hbox; clear HB; have HB := n0_; have BK2 := n1_; clear n0_ n1_; clear hb hbox hgb) | ((with_reducible refine gate_dst (N := 3) rfl ?_); (try (refine gate_guard (by rfl) ?_; dsimp only)); refine box_event ?hg (N := 3) ?hd (cs := #[.string a1]) (t := 9) ?hr ?_; (case hd => rfl); (case hg => rfl); (case hr => first | (go_simp; done) | (go_simp; rfl)); intro gs hgb w4 hbox hb; have n0_ := Aside0.mk (below_step (by repeat (first | (with_reducible first | exact HB.out | apply below_alloc | apply pw_below_drewN | apply below_drew1) | exact HB.out)) hb); have n1_ := Aside0.mk hbox; have m0_ := Aside0.mk (blk_below (by (with_reducible repeat (first | refine blk_drewN ?_ _ | refine blk_drew ?_ | refine blk_alloc ?_ _)); exact BK2.out) hb); clear HB; have HB := n0_; have BK3 := n1_; clear n0_ n1_; clear BK2; have BK2 := m0_; clear m0_; clear hb hbox hgb))
  (try simp only [Act.put, List.setIfInBounds_toArray, List.set_cons_zero, List.set_cons_succ])
  have hcz0 : w4.cell? ⟨gb, 0, none⟩ = some (.slice A0_0 l0_0.length c0_0) := (blk_cell BK2.out 0).trans rfl
  have hcz1 : w4.cell? ⟨gb, 1, none⟩ = some (.slice A0_1 l0_1.length c0_1) := (blk_cell BK2.out 1).trans rfl
  have hfz0 := blk_frozen BK2.out 0
  have hfz1 := blk_frozen BK2.out 1
  have hpr : ∀ W, Below w4.heap.size w4 W → Calls Try.prog 40 #[.slice A0_1 l0_1.length c0_1, .func (.func 51) #[] #[.pointer (some ⟨gs, 0, none⟩)]] W fun e w' => e = .returned (.bool (l0_1.any fun x => (hitB a1 x).getD false)) ∧ Below W.heap.size W w' := by
   intro W hW
   refine slices_ContainsFunc_blocks 51 _ _ A0_1 c0_1 l0_1 W (Kd.C_below HR0_1.out (below_step HB.out hW)) HC0_1.out EG2.out ?_
   intro x W' hx hW'
   have hs := List.all_eq_true.1 C3.out x hx
   obtain ⟨b, hb⟩ := Option.isSome_iff_exists.1 hs
   rw [hb, Option.getD_some]
   refine (allowed_pred gs a1 x b W' (blk_below (blk_below BK3.out hW) hW') hb).mono ?_
   rintro e w' ⟨rfl, hb'⟩
   exact ⟨rfl, below_step hW' hb'⟩
  have HPR := Aside0.mk hpr
  clear hpr
  go_wp2_with (first | (go_at_call 40; refine (HPR.out _ (by repeat (first | exact Below.refl _ _ | apply pw_below_drewN | apply below_drew1))).mono ?_; rintro e w7 ⟨rfl, hb7⟩))
  go_ret
  exact ⟨by first | rfl | (simp; done), by repeat (first | exact below_step (by repeat (first | exact HB.out | apply below_alloc | apply pw_below_drewN | apply below_drew1 | exact Below.refl _ _)) hb7 | apply pw_below_drewN | apply below_drew1)⟩
 ·rw [if_neg c3] at h; cases h

end Go.Proofs.Ytpbgloppcenljaa.A
