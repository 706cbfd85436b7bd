-- written by a program of this session's over the kit's print (xp.py)
import Derived.Test.YtfcphekdimeodaaDoorAx0
import Derived.Test.YtfcphekdimeodaaDoorAx4
import Derived.Test.YtfcphekdimeodaaDoorAx5
-- halved
namespace Go.Proofs.YtfcphekdimeodaaDoor.A
open Go.RowKit Go.Proofs.YtfcphekdimeodaaDoorW.PrintWords Go.Proofs.YtfcphekdimeodaaDoorW.PrintLast Go.Proofs.YtfcphekdimeodaaDoorW.PrintMore
attribute [local go_sem] max2_int min2_int max_two min_two max_three min_three max_four min_four   -- for this text's walks alone
set_option linter.unusedVariables false
set_option linter.unusedSimpArgs false

/-! ### slices.IndexFunc, slices.ContainsFunc over blocks, at a function value that may lay blocks of its own -/
set_option maxHeartbeats 8000000 in
set_option maxRecDepth 100000 in
theorem slices_IndexFunc_blocks (g : Nat) (q : Value) (p : S35 → Bool) (A0 : Option Addr) (c0 : Nat) (l0 : List S35) (w : World) (hr0 : Kd.C k35 w A0 l0.length l0) (hc0 : l0.length ≤ c0)
  (eg : ∀ args w, (callFunc g args).run Tryd.prog w = .ok (.enter g args) w)
  (hp : ∀ (x : S35) (W : World), x ∈ l0 → Below w.heap.size w W → Calls Tryd.prog g #[.agg #[.int .i64 x.f0, .int .i64 x.f1, .int .i64 x.f2, .int .i64 x.f3], q] W fun e w' => e = .returned (.bool (p x)) ∧ Below w.heap.size w w') :
  Calls Tryd.prog 39 #[.slice A0 l0.length c0, .func (.func g) #[] #[q]] w fun e w' => ∃ i : Int, e = .returned (.int .i64 i) ∧ decide (i ≥ 0) = l0.any p ∧ Below w.heap.size w w' := by
 have hu35 := Tryd.underlying35
 have HR0 := Aside0.mk hr0
 have HP := Aside0.mk hp
 clear hr0 hp
 have HB0 := Aside0.mk (Below.refl w.heap.size w)
 go_enter Tryd.func39, Tryd.ntmps39
 go_wp2
 go_loopg [8] l0.length (fun kq v8 w' => ∃ kk : Nat, kk ≤ l0.length ∧ l0.length - kk ≤ kq ∧ v8 = .int .i64 kk ∧ Aside0 (Below w.heap.size w w') ∧ Aside0 ((l0.take kk).any p = false))
 case atStart => exact ⟨0, Nat.zero_le _, by omega, rfl, ⟨by repeat (first | exact HB0.out | apply pw_below_drewN | apply below_drew1)⟩, ⟨rfl⟩⟩
 case round =>
  obtain ⟨kk, hkk, hgg, rfl, HB, HA⟩ := hrel
  by_cases hlt : (kk : Int) < (l0.length : Int)
  ·have c1 : decide ((kk : Int) < (l0.length : Int)) = true := decide_eq_true hlt
   obtain ⟨ad, e, hx0, hx1, hx2, hx3⟩ := at_T35 HR0.out (kk : Int) (by omega) hlt
   cases e
   have p5 : (0 ≤ (kk : Int)) = True := eq_true (by omega)
   have q5 : ((kk : Int) < (l0.length : Int)) = True := eq_true hlt
   obtain ⟨y, hy⟩ : ∃ y : S35, rd_T35 l0 (kk : Int) = y := ⟨_, rfl⟩
   have hget : l0[kk]? = some y := by
    have : kk < l0.length := by omega
    rw [List.getElem?_eq_getElem this, ← hy]
    simp [rd_T35, List.getD, this]
   rw [hy] at hx0 hx1 hx2 hx3
   replace hx0 := (HB.out.cell (World.block_lt_of_cell? w _ hx0)).trans hx0
   replace hx1 := (HB.out.cell (World.block_lt_of_cell? w _ hx1)).trans hx1
   replace hx2 := (HB.out.cell (World.block_lt_of_cell? w _ hx2)).trans hx2
   replace hx3 := (HB.out.cell (World.block_lt_of_cell? w _ hx3)).trans hx3
   rw [Int.toNat_natCast] at hx0 hx1 hx2 hx3
   have Hy := Aside0.mk hy
   clear hy
   have hmem : y ∈ l0 := List.mem_of_getElem? hget
   have ht : (l0.take (kk + 1)).any p = ((l0.take kk).any p || p y) := by rw [List.take_add_one, hget, List.any_append]; simp
   rw [HA.out, Bool.false_or] at ht
   have HT := Aside0.mk ht
   clear ht
   have HG := Aside0.mk hget
   clear hget
   have hcall := fun W => HP.out y W hmem
   clear hmem
   cases hq : p y with
   | true =>
    rw [hq] at hcall
    go_wp2_with fail
    refine (hcall _ (by repeat (first | exact HB.out | apply below_alloc | apply pw_below_drewN | apply below_drew1 | exact Below.refl _ _))).mono ?_
    rintro e w' ⟨rfl, hb'⟩
    go_wp2
    go_ret
    refine ⟨_, rfl, ?_, hb'⟩
    rw [decide_eq_true (by omega)]
    have h1 := HT.out
    rw [hq] at h1
    have := List.any_eq_true.1 h1
    obtain ⟨z, hz, hpz⟩ := this
    exact (List.any_eq_true.2 ⟨z, List.mem_of_mem_take hz, hpz⟩).symm
   | false =>
    rw [hq] at hcall
    go_wp2_with fail
    refine (hcall _ (by repeat (first | exact HB.out | apply below_alloc | apply pw_below_drewN | apply below_drew1 | exact Below.refl _ _))).mono ?_
    rintro e w' ⟨rfl, hb'⟩
    go_wp2
    go_roundg (l0.length - (kk + 1))
    case measure => omega
    case rel => exact ⟨kk + 1, by omega, by omega, by have h_ := HR0.out.2.1; rw [show wrap64 ((kk : Int) + 1) = ((kk + 1 : Nat) : Int) by unfold wrap64; omega], ⟨hb'⟩, ⟨by rw [HT.out, hq]⟩⟩
  ·have c1 : decide ((kk : Int) < (l0.length : Int)) = false := decide_eq_false hlt
   go_wp2
   go_ret
   refine ⟨_, rfl, ?_, (by repeat (first | exact HB.out | apply below_alloc | apply pw_below_drewN | apply below_drew1 | exact Below.refl _ _))⟩
   have h1 := HA.out
   rw [List.take_of_length_le (by omega)] at h1
   rw [h1]; rfl
set_option maxHeartbeats 8000000 in
set_option maxRecDepth 100000 in
theorem slices_ContainsFunc_blocks (g : Nat) (q : Value) (p : S35 → Bool) (A0 : Option Addr) (c0 : Nat) (l0 : List S35) (w : World) (hr0 : Kd.C k35 w A0 l0.length l0) (hc0 : l0.length ≤ c0)
  (eg : ∀ args w, (callFunc g args).run Tryd.prog w = .ok (.enter g args) w)
  (hp : ∀ (x : S35) (W : World), x ∈ l0 → Below w.heap.size w W → Calls Tryd.prog g #[.agg #[.int .i64 x.f0, .int .i64 x.f1, .int .i64 x.f2, .int .i64 x.f3], q] W fun e w' => e = .returned (.bool (p x)) ∧ Below w.heap.size w w') :
  Calls Tryd.prog 27 #[.slice A0 l0.length c0, .func (.func g) #[] #[q]] w fun e w' => e = .returned (.bool (l0.any p)) ∧ Below w.heap.size w w' := by
 have HR0 := Aside0.mk hr0
 have HP := Aside0.mk hp
 clear hr0 hp
 go_enter Tryd.func27, Tryd.ntmps27
 go_wp2_with (go_at_call 39; refine (slices_IndexFunc_blocks g q p A0 c0 l0 _ HR0.out hc0 eg HP.out).mono ?_; rintro e w' ⟨i, rfl, hi, hb⟩)
 go_ret
 exact ⟨rfl, hb⟩
/-! ### impl_AreBolts -/
def isBlk (l0_0 : List Int) (l0_1 : List S35) (x : S35) : Option Bool := impl_Bolts_isBlock.f l0_0 l0_1 x.f0 x.f1 x.f2 x.f3
def impl_AreBolts.f (k : Nat) (l0_0 : List Int) (l0_1 : List S35) : Option Bool := (impl_in.f (l0_0.length : Int) 1 6).bind fun t => if t = true then (if (l0_1.length : Int) > 40 then some false else (if (l0_0.any fun n => !(decide (2 ≤ n ∧ n ≤ 5))) = true then some false else ((impl_product.f k l0_0).bind fun m => if m ≤ 1000 then (if (l0_1.all fun x => (isBlk l0_0 l0_1 x).isSome) = true then some (!(l0_1.any fun x => !((isBlk l0_0 l0_1 x).getD false))) else none) else some false))) else some false
theorem impl_AreBolts.mono : ∀ a0 a1 k, LeO (impl_AreBolts.f k a0 a1) (impl_AreBolts.f (k + 1) a0 a1) := by
 intro a0 a1 k
 unfold impl_AreBolts.f
 repeat' first
  | (with_reducible exact impl_product.mono _ _)
  | (with_reducible exact LeO.refl _)
  | (with_reducible exact LeO.none _)
  | (with_reducible refine LeO.ite ?_ ?_)
  | (with_reducible refine LeO.bind ?_ (fun _ => ?_))
theorem in_valA (n a b : Int) : impl_in.f n a b = some (decide (a ≤ n ∧ n ≤ b)) := by
 unfold impl_in.f
 by_cases h : n ≥ a
 ·rw [if_pos h]; have h' : a ≤ n := h; simp [h']
 ·rw [if_neg h]; have h' : ¬ a ≤ n := h; simp [h']
set_option maxHeartbeats 8000000 in
set_option maxRecDepth 100000 in
theorem areBolts_pred1 (x : Int) (w : World) : Calls Tryd.prog 25 #[.int .i64 x] w fun e w' => e = .returned (.bool (!(decide (2 ≤ x ∧ x ≤ 5)))) ∧ Drawn0 w w' := by
 go_enter Tryd.func25, Tryd.ntmps25
 go_wp2_with (go_at_call 23; refine (impl_in.calls x 2 5 _ _ (in_valA x 2 5)).mono ?_; rintro e w' ⟨rfl, ⟨nd, rfl⟩⟩)
 go_ret
 exact ⟨by first | rfl | (simp; done), by repeat (first | exact Drawn0.refl _ | apply Drawn0.step)⟩
set_option maxHeartbeats 8000000 in
set_option maxRecDepth 100000 in
theorem areBolts_pred2 (g : Nat) (A0_0 : Option Addr) (c0_0 : Nat) (l0_0 : List Int) (A0_1 : Option Addr) (c0_1 : Nat) (l0_1 : List S35) (x : S35) (b : Bool) (w : World) (hg : w.heap[g]? = some (.cells #[.slice A0_0 l0_0.length c0_0, .slice A0_1 l0_1.length c0_1] 25 (0, 0)))
  (hr0_0 : Kd.C (Kd.int .i64) w A0_0 l0_0.length l0_0) (hc0_0 : l0_0.length ≤ c0_0) (hr0_1 : Kd.C k35 w A0_1 l0_1.length l0_1) (hc0_1 : l0_1.length ≤ c0_1) (h : isBlk l0_0 l0_1 x = some b) :
  Calls Tryd.prog 28 #[.agg #[.int .i64 x.f0, .int .i64 x.f1, .int .i64 x.f2, .int .i64 x.f3], .pointer (some ⟨g, 0, none⟩)] w fun e w' => e = .returned (.bool (!b)) ∧ Below w.heap.size w w' := by
 have hu25 := Tryd.underlying25
 have hu35 := Tryd.underlying35
 have HR0_0 := Aside0.mk hr0_0
 have HC0_0 := Aside0.mk hc0_0
 have HR0_1 := Aside0.mk hr0_1
 have HC0_1 := Aside0.mk hc0_1
 have BKG := Aside0.mk hg
 have HV := Aside0.mk h
 clear hr0_0 hc0_0 hr0_1 hc0_1 hg h
 have HB := Aside0.mk (Below.refl w.heap.size w)
 go_enter Tryd.func28, Tryd.ntmps28
 go_upto_region 1 with (first | ((with_reducible refine gate_dst (N := 2) rfl ?_); (try (refine gate_guard (by rfl) ?_; dsimp only)); refine box_event ?hg (N := 2) ?hd (cs := #[.int .i64 x.f0, .int .i64 x.f1, .int .i64 x.f2, .int .i64 x.f3]) (t := 35) ?hr ?_; (case hd => rfl); (case hg => rfl); (case hr => first | (go_simp; done) | (go_simp; rfl)); intro gb hgb w3 hbox hb; have n0_ := Aside0.mk (below_step (by repeat (first | (with_reducible first | exact HB.out | apply below_alloc | apply pw_below_drewN | apply below_drew1) | exact HB.out)) hb); have n1_ := Aside0.mk hbox; have n2_ := Aside0.mk (blk_below (by (with_reducible repeat (first | refine blk_drewN ?_ _ | refine blk_drew ?_ | refine blk_alloc ?_ _)); exact BKG.out) hb); clear HB; clear BKG; have HB := n0_; have BK := n1_; have BKG := n2_; clear n0_ n1_ n2_; clear hb hbox hgb))
 (try simp only [Act.put, List.setIfInBounds_toArray, List.set_cons_zero, List.set_cons_succ])
 have hcz0 : w3.cell? ⟨gb, 0, none⟩ = some (.int .i64 x.f0) := (blk_cell BK.out 0).trans rfl
 have hcz1 : w3.cell? ⟨gb, 1, none⟩ = some (.int .i64 x.f1) := (blk_cell BK.out 1).trans rfl
 have hcz2 : w3.cell? ⟨gb, 2, none⟩ = some (.int .i64 x.f2) := (blk_cell BK.out 2).trans rfl
 have hcz3 : w3.cell? ⟨gb, 3, none⟩ = some (.int .i64 x.f3) := (blk_cell BK.out 3).trans rfl
 have hfz0 := blk_frozen BK.out 0
 have hfz1 := blk_frozen BK.out 1
 have hfz2 := blk_frozen BK.out 2
 have hfz3 := blk_frozen BK.out 3
 have hcg0 : w3.cell? ⟨g, 0, none⟩ = some (.slice A0_0 l0_0.length c0_0) := (blk_cell BKG.out 0).trans rfl
 have hcg1 : w3.cell? ⟨g, 1, none⟩ = some (.slice A0_1 l0_1.length c0_1) := (blk_cell BKG.out 1).trans rfl
 have hfg0 := blk_frozen BKG.out 0
 have hfg1 := blk_frozen BKG.out 1
 go_wp2_with (go_at_call 29; refine (impl_Bolts_isBlock.calls A0_0 c0_0 l0_0 A0_1 c0_1 l0_1 x.f0 x.f1 x.f2 x.f3 b _ (Kd.C_below HR0_0.out (by repeat (first | exact HB.out | apply below_alloc | apply pw_below_drewN | apply below_drew1 | exact Below.refl _ _))) HC0_0.out (Kd.C_below HR0_1.out (by repeat (first | exact HB.out | apply below_alloc | apply pw_below_drewN | apply below_drew1 | exact Below.refl _ _))) HC0_1.out HV.out).mono ?_; rintro e w6 ⟨rfl, hb6⟩)
 go_ret
 exact ⟨by first | rfl | (simp; done), by repeat (first | exact below_step (by repeat (first | exact HB.out | apply below_alloc | apply pw_below_drewN | apply below_drew1 | exact Below.refl _ _)) hb6 | apply pw_below_drewN | apply below_drew1)⟩
set_option maxHeartbeats 8000000 in
set_option maxRecDepth 100000 in
theorem impl_AreBolts.calls (k : Nat) (A0_0 : Option Addr) (c0_0 : Nat) (l0_0 : List Int) (A0_1 : Option Addr) (c0_1 : Nat) (l0_1 : List S35) (r : Bool) (w : World) (hr0_0 : Kd.C (Kd.int .i64) w A0_0 l0_0.length l0_0) (hc0_0 : l0_0.length ≤ c0_0) (hr0_1 : Kd.C k35 w A0_1 l0_1.length l0_1) (hc0_1 : l0_1.length ≤ c0_1) (h : impl_AreBolts.f k l0_0 l0_1 = some r) :
  Calls Tryd.prog 12 #[.agg #[.slice A0_0 l0_0.length c0_0, .slice A0_1 l0_1.length c0_1]] w fun e w' => e = .returned (.bool r) ∧ Below w.heap.size w w' := by
 have hu25 := Tryd.underlying25
 have hu35 := Tryd.underlying35
 have HR0_0 := Aside0.mk hr0_0
 have HC0_0 := Aside0.mk hc0_0
 have HR0_1 := Aside0.mk hr0_1
 have HC0_1 := Aside0.mk hc0_1
 clear hr0_0 hc0_0 hr0_1 hc0_1
 have HB := Aside0.mk (Below.refl w.heap.size w)
 have eg1 : ∀ args w, (callFunc 25 args).run Tryd.prog w = .ok (.enter 25 args) w := by
  intro args w
  exact enters_of Tryd.func25 (by decide) rfl args w
 have eg2 : ∀ args w, (callFunc 28 args).run Tryd.prog w = .ok (.enter 28 args) w := by
  intro args w
  exact enters_of Tryd.func28 (by decide) rfl args w
 have EG2 := Aside0.mk eg2
 clear eg2
 obtain ⟨q, hq⟩ : ∃ q, (l0_0.any fun n => !(decide (2 ≤ n ∧ n ≤ 5))) = q := ⟨_, rfl⟩
 have hcont : ∀ w1, Below w.heap.size w w1 → Calls Tryd.prog 24 #[.slice A0_0 l0_0.length c0_0, .func (.func 25) #[] #[]] w1 fun e w' => e = .returned (.bool q) ∧ Drawn0 w1 w' := by
  intro w1 hb
  rw [← hq]
  exact slices_ContainsFunc_ints 25 (fun n => !(decide (2 ≤ n ∧ n ≤ 5))) A0_0 c0_0 l0_0 w1 (Kd.C_below HR0_0.out hb) HC0_0.out eg1 (fun x q => (areBolts_pred1 x _).mono fun e w' ⟨h1, ⟨n, h2⟩⟩ => ⟨h1, n, h2⟩)
 have HCONT := Aside0.mk hcont
 clear hcont eg1
 unfold impl_AreBolts.f at h
 rw [hq] at h
 clear hq
 go_enter Tryd.func12, Tryd.ntmps12
 go_upto_region 1 with (first | ((with_reducible refine gate_dst (N := 1) rfl ?_); (try (refine gate_guard (by rfl) ?_; dsimp only)); refine box_event ?hg (N := 1) ?hd (cs := #[.slice A0_0 l0_0.length c0_0, .slice A0_1 l0_1.length c0_1]) (t := 25) ?hr ?_; (case hd => rfl); (case hg => rfl); (case hr => first | (go_simp; done) | (go_simp; rfl)); intro gb hgb w3 hbox hb; have n0_ := Aside0.mk (below_step (by repeat (first | (with_reducible first | exact HB.out | apply below_alloc | apply pw_below_drewN | apply below_drew1) | exact HB.out)) hb); have n1_ := Aside0.mk hbox; clear HB; have HB := n0_; have BK := n1_; clear n0_ n1_; clear hb hbox hgb))
 (try simp only [Act.put, List.setIfInBounds_toArray, List.set_cons_zero, List.set_cons_succ])
 have hcz0 : w3.cell? ⟨gb, 0, none⟩ = some (.slice A0_0 l0_0.length c0_0) := (blk_cell BK.out 0).trans rfl
 have hcz1 : w3.cell? ⟨gb, 1, none⟩ = some (.slice A0_1 l0_1.length c0_1) := (blk_cell BK.out 1).trans rfl
 have hfz0 := blk_frozen BK.out 0
 have hfz1 := blk_frozen BK.out 1
 obtain ⟨t, A1, H⟩ := Option.bind_eq_some_iff.mp h
 clear h
 cases t
 ·rw [if_neg (by decide)] at H
  obtain rfl := Option.some.inj H
  go_wp2_with (first | (go_at_call 23; refine (impl_in.calls (l0_0.length : Int) 1 6 false _ A1).mono ?_; rintro e w' ⟨rfl, ⟨nd, rfl⟩⟩))
  go_ret
  exact ⟨rfl, (by repeat (first | exact HB.out | apply below_alloc | apply pw_below_drewN | apply below_drew1 | exact Below.refl _ _))⟩
 rw [if_pos rfl] at H
 by_cases c1 : (l0_1.length : Int) > 40
 ·rw [if_pos c1] at H
  have c1b : decide (40 < (l0_1.length : Int)) = true := decide_eq_true c1
  obtain rfl := Option.some.inj H
  go_wp2_with (first | (go_at_call 23; refine (impl_in.calls (l0_0.length : Int) 1 6 true _ A1).mono ?_; rintro e w' ⟨rfl, ⟨nd, rfl⟩⟩))
  go_ret
  exact ⟨rfl, (by repeat (first | exact HB.out | apply below_alloc | apply pw_below_drewN | apply below_drew1 | exact Below.refl _ _))⟩
 rw [if_neg c1] at H
 have c1b : decide (40 < (l0_1.length : Int)) = false := decide_eq_false c1
 clear c1
 cases q
 case true =>
  rw [if_pos rfl] at H
  obtain rfl := Option.some.inj H
  go_wp2_with (first | (go_at_call 23; refine (impl_in.calls (l0_0.length : Int) 1 6 true _ A1).mono ?_; rintro e w' ⟨rfl, ⟨nd, rfl⟩⟩) | (go_at_call 24; refine (HCONT.out _ (by repeat (first | exact HB.out | apply below_alloc | apply pw_below_drewN | apply below_drew1 | exact Below.refl _ _))).mono ?_; rintro e w' ⟨rfl, ⟨nd2, rfl⟩⟩))
  go_ret
  exact ⟨rfl, (by repeat (first | exact HB.out | apply below_alloc | apply pw_below_drewN | apply below_drew1 | exact Below.refl _ _))⟩
 rw [if_neg (by decide)] at H
 obtain ⟨m, A2, H⟩ := Option.bind_eq_some_iff.mp H
 have A2 := Aside0.mk A2
 by_cases c2 : m ≤ 1000
 ·rw [if_pos c2] at H
  have c2b : decide (m ≤ 1000) = true := decide_eq_true c2
  clear c2
  by_cases c3 : (l0_1.all fun x => (isBlk l0_0 l0_1 x).isSome) = true
  ·rw [if_pos c3] at H
   have C3 := Aside0.mk c3
   clear c3
   obtain rfl := Option.some.inj H
   clear H
   have hpr : ∀ W, Below w3.heap.size w3 W → Calls Tryd.prog 27 #[.slice A0_1 l0_1.length c0_1, .func (.func 28) #[] #[.pointer (some ⟨gb, 0, none⟩)]] W fun e w' => e = .returned (.bool (l0_1.any fun x => !((isBlk l0_0 l0_1 x).getD false))) ∧ Below W.heap.size W w' := by
    intro W hW
    refine slices_ContainsFunc_blocks 28 _ _ A0_1 c0_1 l0_1 W (Kd.C_below HR0_1.out (below_step HB.out hW)) HC0_1.out EG2.out ?_
    intro x W' hx hW'
    have hs := List.all_eq_true.1 C3.out x hx
    obtain ⟨b, hb⟩ := Option.isSome_iff_exists.1 hs
    rw [hb, Option.getD_some]
    refine (areBolts_pred2 gb A0_0 c0_0 l0_0 A0_1 c0_1 l0_1 x b W' (blk_below (blk_below BK.out hW) hW') (Kd.C_below HR0_0.out (below_step (below_step HB.out hW) hW')) HC0_0.out (Kd.C_below HR0_1.out (below_step (below_step HB.out hW) hW')) HC0_1.out hb).mono ?_
    rintro e w' ⟨rfl, hb'⟩
    exact ⟨rfl, below_step hW' hb'⟩
   have HPR := Aside0.mk hpr
   clear hpr
   go_wp2_with (first | (go_at_call 23; refine (impl_in.calls (l0_0.length : Int) 1 6 true _ A1).mono ?_; rintro e w' ⟨rfl, ⟨nd, rfl⟩⟩) | (go_at_call 24; refine (HCONT.out _ (by repeat (first | exact HB.out | apply below_alloc | apply pw_below_drewN | apply below_drew1 | exact Below.refl _ _))).mono ?_; rintro e w' ⟨rfl, ⟨nd2, rfl⟩⟩) | (go_at_call 26; refine (impl_product.calls k A0_0 c0_0 l0_0 m _ (Kd.C_below HR0_0.out (by repeat (first | exact HB.out | apply below_alloc | apply pw_below_drewN | apply below_drew1 | exact Below.refl _ _))) HC0_0.out A2.out).mono ?_; rintro e w' ⟨rfl, ⟨nd3, rfl⟩⟩) | (go_at_call 27; refine (HPR.out _ (by repeat (first | exact Below.refl _ _ | apply pw_below_drewN | apply below_drew1))).mono ?_; rintro e w7 ⟨rfl, hb7⟩))
   go_ret
   exact ⟨by first | rfl | (simp; done), by repeat (first | exact below_step (by repeat (first | exact HB.out | apply below_alloc | apply pw_below_drewN | apply below_drew1 | exact Below.refl _ _)) hb7 | apply pw_below_drewN | apply below_drew1)⟩
  ·rw [if_neg c3] at H
   cases H
 ·rw [if_neg c2] at H
  have c2b : decide (m ≤ 1000) = false := decide_eq_false c2
  clear c2
  obtain rfl := Option.some.inj H
  go_wp2_with (first | (go_at_call 23; refine (impl_in.calls (l0_0.length : Int) 1 6 true _ A1).mono ?_; rintro e w' ⟨rfl, ⟨nd, rfl⟩⟩) | (go_at_call 24; refine (HCONT.out _ (by repeat (first | exact HB.out | apply below_alloc | apply pw_below_drewN | apply below_drew1 | exact Below.refl _ _))).mono ?_; rintro e w' ⟨rfl, ⟨nd2, rfl⟩⟩) | (go_at_call 26; refine (impl_product.calls k A0_0 c0_0 l0_0 m _ (Kd.C_below HR0_0.out (by repeat (first | exact HB.out | apply below_alloc | apply pw_below_drewN | apply below_drew1 | exact Below.refl _ _))) HC0_0.out A2.out).mono ?_; rintro e w' ⟨rfl, ⟨nd3, rfl⟩⟩))
  go_ret
  exact ⟨rfl, (by repeat (first | exact HB.out | apply below_alloc | apply pw_below_drewN | apply below_drew1 | exact Below.refl _ _))⟩

/-! ### impl_ParseBolts: function 5 -/
def impl_ParseBolts.l0 : Nat → List ByteArray → Int → Int → List Int → List (S35) → Option (List Int × (List (S35)) × Bool)
 | 0, _, _, _, _, _ => none
 | k + 1, x21, x22, x23, x188000, x188001 => if x23 < x22 then (if 0 ≤ x23 then (if x23 < (x21.length : Int) then ((impl_numbersOf.f k (rdOf ByteArray.empty x21 x23)).bind fun t193 => (if (t193.length : Int) = 4 then (if 0 < (t193.length : Int) then (if 1 < (t193.length : Int) then (if 2 < (t193.length : Int) then (if 3 < (t193.length : Int) then (if x188001.length < 4398046511104 then (impl_ParseBolts.l0 k x21 x22 (wrap64 (x23 + 1)) x188000 (x188001 ++ [(⟨rd t193 0, rd t193 1, rd t193 2, rd t193 3⟩ : S35)])) else (none)) else (none)) else (none)) else (none)) else (none)) else (some (([] : List Int), ([] : List (S35)), false)))) else (none)) else (none)) else ((impl_AreBolts.f k x188000 x188001).bind fun t203 => (if t203 = true then (some (x188000, x188001, true)) else (some (([] : List Int), ([] : List (S35)), false))))
def impl_ParseBolts.f (k : Nat) (a0 : ByteArray) : Option (List Int × (List (S35)) × Bool) := (strings_Split.f a0 (⟨#[59]⟩ : ByteArray)).bind fun t180 => (if (t180.length : Int) > 41 then (some (([] : List Int), ([] : List (S35)), false)) else (if 0 < (t180.length : Int) then ((impl_numbersOf.f k (rdOf ByteArray.empty t180 0)).bind fun t184 => (if 1 ≤ (t180.length : Int) then ((some (t180.drop 1 : List ByteArray)).bind fun y188 => (impl_ParseBolts.l0 k y188 (y188.length : Int) 0 t184 ([] : List (S35)))) else (none))) else (none)))
theorem impl_ParseBolts.mono_l : ∀ k, (∀ y0 y1 y2 y3 y4, LeO (impl_ParseBolts.l0 k y0 y1 y2 y3 y4) (impl_ParseBolts.l0 (k + 1) y0 y1 y2 y3 y4))
 | 0 => fun _ _ _ _ _ r h => by simp [impl_ParseBolts.l0] at h
 | k + 1 => by
  have ih0 := impl_ParseBolts.mono_l k
  ·intro y0 y1 y2 y3 y4
   unfold impl_ParseBolts.l0
   repeat' first
   | (with_reducible exact ih0 _ _ _ _ _)
   | (with_reducible exact impl_AreBolts.mono _ _ _)
   | (with_reducible exact impl_numbersOf.mono _ _)
   | (with_reducible exact LeO.refl _)
   | (with_reducible exact LeO.none _)
   | (with_reducible refine LeO.ite ?_ ?_)
   | (with_reducible refine LeO.bind ?_ (fun _ => ?_))
   | exact ih0 _ _ _ _ _
   | exact impl_AreBolts.mono _ _ _
   | exact impl_numbersOf.mono _ _
   | exact LeO.none _
   | refine LeO.ite ?_ ?_
   | refine LeO.bind ?_ (fun _ => ?_)
theorem impl_ParseBolts.mono : ∀ a0 k, LeO (impl_ParseBolts.f k a0) (impl_ParseBolts.f (k + 1) a0) := by
 intro a0 k
 have ih0 := impl_ParseBolts.mono_l k
 unfold impl_ParseBolts.f
 repeat' first
   | (with_reducible exact ih0 _ _ _ _ _)
   | (with_reducible exact impl_AreBolts.mono _ _ _)
   | (with_reducible exact impl_numbersOf.mono _ _)
   | (with_reducible exact LeO.refl _)
   | (with_reducible exact LeO.none _)
   | (with_reducible refine LeO.ite ?_ ?_)
   | (with_reducible refine LeO.bind ?_ (fun _ => ?_))
   | exact ih0 _ _ _ _ _
   | exact impl_AreBolts.mono _ _ _
   | exact impl_numbersOf.mono _ _
   | exact LeO.none _
   | refine LeO.ite ?_ ?_
   | refine LeO.bind ?_ (fun _ => ?_)
def impl_ParseBolts.T11 : Bool × List (List Nat × List Nat) := (true, [([], []), ([0], [0]), ([], []), ([2], [2]), ([3], [3]), ([], []), ([5], [5]), ([6], [6]), ([], []), ([8], [8]), ([9], [9]), ([], []), ([11], [11]), ([12], [12]), ([4, 7, 10, 13], [4, 7, 10, 13]), ([14], [14]), ([1, 15], [1, 15]), ([0, 1, 2, 3, 4, 5, 6, 7, 8, 9, 10, 11, 12, 13, 14, 15, 16], []), ([17, 16, 16, 0, 1, 2, 3, 4, 5, 6, 7, 8, 9, 10, 11, 12, 13, 14, 15, 16], [16, 17])])
def impl_ParseBolts.B11 : List Nat := [0, 1, 0, 4, 12, 0, 32, 96, 0, 256, 768, 0, 2048, 6144, 16380, 32764, 65535, 131071, 262143]
theorem impl_ParseBolts.tab11 : rtab .any (opsOf Tryd.f5 11) = impl_ParseBolts.T11 := by kernel_rfl
theorem impl_ParseBolts.bits11 : waitsOk impl_ParseBolts.T11.2 impl_ParseBolts.B11 = true := by kernel_rfl
set_option maxHeartbeats 8000000 in
set_option maxRecDepth 100000 in
theorem impl_ParseBolts.calls (k : Nat) (a0 : ByteArray) (r1 : List Int) (r2 : List (S35)) (r3 : Bool) (w : World) (h : impl_ParseBolts.f k a0 = some (r1, r2, r3)) :
  Calls Tryd.prog 5 #[.string a0] w fun e w' => ∃ v0_ v1_ : Value, e = .returned (.tuple #[.agg #[v0_, v1_], .bool r3]) ∧ Kd.R (Kd.int .i64) 3 w' w.heap.size (fun _ => True) v0_ r1 ∧ Kd.R k35 35 w' w.heap.size (fun _ => True) v1_ r2 ∧ Below w.heap.size w w' := by
 have hu25 := Tryd.underlying25
 have hu35 := Tryd.underlying35
 have HB := Aside0.mk (Below.refl w.heap.size w)
 have H : ((strings_Split.f a0 (⟨#[59]⟩ : ByteArray)).bind fun t180 => (if (t180.length : Int) > 41 then (some (([] : List Int), ([] : List (S35)), false)) else (if 0 < (t180.length : Int) then ((impl_numbersOf.f k (rdOf ByteArray.empty t180 0)).bind fun t184 => (if 1 ≤ (t180.length : Int) then ((some (t180.drop 1 : List ByteArray)).bind fun y188 => (impl_ParseBolts.l0 k y188 (y188.length : Int) 0 t184 ([] : List (S35)))) else (none))) else (none)))) = some (r1, r2, r3) := h
 clear h
 replace H := Option.bind_eq_some_iff.mp H
 obtain ⟨t180, A20, H⟩ := H
 replace H : (if (t180.length : Int) > 41 then (some (([] : List Int), ([] : List (S35)), false)) else (if 0 < (t180.length : Int) then ((impl_numbersOf.f k (rdOf ByteArray.empty t180 0)).bind fun t184 => (if 1 ≤ (t180.length : Int) then ((some (t180.drop 1 : List ByteArray)).bind fun y188 => (impl_ParseBolts.l0 k y188 (y188.length : Int) 0 t184 ([] : List (S35)))) else (none))) else (none))) = some (r1, r2, r3) := H
 have A2 := Aside0.mk A20
 clear A20
 by_cases c3 : (t180.length : Int) > 41
 ·rw [if_pos c3] at H
  have c3b0 : decide (41 < (t180.length : Int)) = true := decide_eq_true c3
  have c3b1 : decide (41 < t180.length) = true := decide_eq_true (by omega)
  clear c3
  simp only [Option.some.injEq, Prod.mk.injEq] at H
  obtain ⟨rfl, rfl, rfl⟩ := H
  go_enter Tryd.func5, Tryd.ntmps5
  go_wp2_with (first | ((with_reducible refine gate_dst (N := 2) rfl ?_); refine box_event ?hg (N := 2) ?hd (cs := #[.slice none 0 0, .slice none 0 0]) (t := 25) ?hr ?_; (case hd => rfl); (case hg => rfl); (case hr => first | (go_simp; done) | (go_simp; rfl)); intro gb179 hg w4 hbox hb; have n0_ := Aside0.mk (below_step (by repeat (first | (with_reducible first | exact HB.out | apply below_alloc | apply pw_below_drewN | apply below_drew1) | exact HB.out)) hb); have n1_ := Aside0.mk (hbox); have n2_ := Aside0.mk ((by rw [hg]; exact (below_size (by repeat (first | (with_reducible first | exact HB.out | apply below_alloc | apply pw_below_drewN | apply below_drew1) | exact HB.out))) : w.heap.size ≤ gb179)); have n3_ := Aside0.mk ((by rw [hg]; exact (below_size (by repeat (first | (with_reducible first | exact HB.out | apply below_alloc | apply pw_below_drewN | apply below_drew1) | exact HB.out))) : w.heap.size ≤ gb179)); clear HB; have HB := n0_; have BK179 := n1_; have GW179 := n2_; have GE179 := n3_; clear n0_ n1_ n2_ n3_; clear hb hbox hg) | ((with_reducible refine gate_callee (f := 10) rfl ?_); refine goesL_ (some 10) rfl rfl Tryd.func10 (by kernel_rfl) rfl #[.string a0, .string (⟨#[59]⟩ : ByteArray)] rfl (by (try simp only [List.map_toArray, List.map_cons, List.map_nil]); first | done | rfl | (simp only [List.length_drop, List.length_take]; rfl)) ?_; (with_reducible refine (strings_Split.calls a0 (⟨#[59]⟩ : ByteArray) t180 _ A2.out).mono ?_); rintro e w5 ⟨v181, rfl, ho0, hb⟩; refine ⟨_, rfl, ?_⟩; have n0_ := Aside0.mk (Kd.R_lower ho0 (below_size (by repeat (first | (with_reducible first | exact HB.out | apply below_alloc | apply pw_below_drewN | apply below_drew1 | refine below_set ?_ GE179.out) | exact HB.out)))); have n1_ := Aside0.mk (blk_below (g := gb179) (o := .cells #[.slice none 0 0, .slice none 0 0] 25 (0, 0)) (by (with_reducible repeat (first | refine blk_drewN ?_ _ | refine blk_drew ?_ | refine blk_alloc ?_ _)); exact BK179.out) hb); have n2_ := Aside0.mk (below_step (by repeat (first | (with_reducible first | exact HB.out | apply below_alloc | apply pw_below_drewN | apply below_drew1 | refine below_set ?_ GE179.out) | exact HB.out)) hb); clear BK179; clear HB; have HO182 := n0_; have BK179 := n1_; have HB := n2_; clear n0_ n1_ n2_; (try clear hb); (try clear hb2); (try clear hk); (try clear hi); (try clear ho0); obtain ⟨Ao6, co6, eo6⟩ := Kd.R_slice HO182.out; subst eo6; have hcz7_0 : w5.cell? ⟨gb179, 0, none⟩ = some (.slice none 0 0) := (blk_cell BK179.out 0).trans rfl; have hcz7_1 : w5.cell? ⟨gb179, 1, none⟩ = some (.slice none 0 0) := (blk_cell BK179.out 1).trans rfl; have hfz7_0 := blk_frozen BK179.out 0; have hfz7_1 := blk_frozen BK179.out 1))
  refine bodyPost_ret (results_ct rfl _ _ gb179 25 #[.slice none 0 0, .slice none 0 0] (0, 0) _ rfl (by (with_reducible repeat (first | refine blk_drewN ?_ _ | refine blk_drew ?_ | refine blk_alloc ?_ _)); refine blk_put (cs := #[.slice none 0 0, .slice none 0 0]) ?_ 1 _ rfl; (with_reducible repeat (first | refine blk_drewN ?_ _ | refine blk_drew ?_ | refine blk_alloc ?_ _)); refine blk_put (cs := #[.slice none 0 0, .slice none 0 0]) ?_ 0 _ rfl; (with_reducible repeat (first | refine blk_drewN ?_ _ | refine blk_drew ?_ | refine blk_alloc ?_ _)); exact BK179.out) Tryd.underlying25 rfl (by kernel_rfl)) rfl ?_
  exact ⟨_, _, by first | rfl | (simp [errW_none, errW_some] <;> rfl) | (simp [*, errW_none, errW_some] <;> rfl), by first | exact Kd.R_nil _ _ _ _ _ | exact Kd.N_nil _ _ _ _ _ | exact Kd.V_nil _ _ _ _ _ | exact Kd.Q_nil _ _ _ _ _ | exact Kd.S_nil _ _ _ _ _, by first | exact Kd.R_nil _ _ _ _ _ | exact Kd.N_nil _ _ _ _ _ | exact Kd.V_nil _ _ _ _ _ | exact Kd.Q_nil _ _ _ _ _ | exact Kd.S_nil _ _ _ _ _, by repeat (first | (with_reducible first | exact HB.out | apply below_alloc | apply pw_below_drewN | apply below_drew1 | refine below_set ?_ GE179.out) | exact HB.out)⟩
 ·rw [if_neg c3] at H
  have c3b0 : decide (41 < (t180.length : Int)) = false := decide_eq_false c3
  have c3b1 : decide (41 < t180.length) = false := decide_eq_false (by omega)
  clear c3
  by_cases c8 : 0 < (t180.length : Int)
  ·rw [if_pos c8] at H
   have c8b0 : decide (0 < (t180.length : Int)) = true := decide_eq_true c8
   have c8b1 : decide (0 < t180.length) = true := decide_eq_true (by omega)
   clear c8
   replace H := Option.bind_eq_some_iff.mp H
   obtain ⟨t184, A90, H⟩ := H
   replace H : (if 1 ≤ (t180.length : Int) then ((some (t180.drop 1 : List ByteArray)).bind fun y188 => (impl_ParseBolts.l0 k y188 (y188.length : Int) 0 t184 ([] : List (S35)))) else (none)) = some (r1, r2, r3) := H
   have A9 := Aside0.mk A90
   clear A90
   by_cases c10 : 1 ≤ (t180.length : Int)
   ·rw [if_pos c10] at H
    have c10b0 := eq_true c10
    have c10b1 : decide (1 ≤ (t180.length : Int)) = true := decide_eq_true c10
    clear c10
    obtain ⟨y188, hy188⟩ : ∃ y_ : List ByteArray, y_ = (t180.drop 1) := ⟨_, rfl⟩
    replace H : (impl_ParseBolts.l0 k y188 (y188.length : Int) 0 t184 ([] : List (S35))) = some (r1, r2, r3) := by first | (rw [hy188]; with_reducible exact H) | (have H2_ := (Option.bind_some _ _).symm.trans H; rw [hy188]; with_reducible exact H2_) | (have H2_ := (Option.bind_some _ _).symm.trans H; with_reducible exact H2_) | with_reducible exact H | (rw [hy188]; exact H) | exact H
    have Ny188 := Aside0.mk hy188
    clear hy188
    have H' := Aside0.mk H
    clear H
    go_enter Tryd.func5, Tryd.ntmps5
    go_wp2_with (first | ((with_reducible refine gate_dst (N := 2) rfl ?_); refine box_event ?hg (N := 2) ?hd (cs := #[.slice none 0 0, .slice none 0 0]) (t := 25) ?hr ?_; (case hd => rfl); (case hg => rfl); (case hr => first | (go_simp; done) | (go_simp; rfl)); intro gb179 hg w11 hbox hb; have n0_ := Aside0.mk (below_step (by repeat (first | (with_reducible first | exact HB.out | apply below_alloc | apply pw_below_drewN | apply below_drew1) | exact HB.out)) hb); have n1_ := Aside0.mk (hbox); have n2_ := Aside0.mk ((by rw [hg]; exact (below_size (by repeat (first | (with_reducible first | exact HB.out | apply below_alloc | apply pw_below_drewN | apply below_drew1) | exact HB.out))) : w.heap.size ≤ gb179)); have n3_ := Aside0.mk ((by rw [hg]; exact (below_size (by repeat (first | (with_reducible first | exact HB.out | apply below_alloc | apply pw_below_drewN | apply below_drew1) | exact HB.out))) : w.heap.size ≤ gb179)); clear HB; have HB := n0_; have BK179 := n1_; have GW179 := n2_; have GE179 := n3_; clear n0_ n1_ n2_ n3_; clear hb hbox hg) | ((with_reducible refine gate_callee (f := 10) rfl ?_); refine goesL_ (some 10) rfl rfl Tryd.func10 (by kernel_rfl) rfl #[.string a0, .string (⟨#[59]⟩ : ByteArray)] rfl (by (try simp only [List.map_toArray, List.map_cons, List.map_nil]); first | done | rfl | (simp only [List.length_drop, List.length_take]; rfl)) ?_; (with_reducible refine (strings_Split.calls a0 (⟨#[59]⟩ : ByteArray) t180 _ A2.out).mono ?_); rintro e w12 ⟨v181, rfl, ho0, hb⟩; refine ⟨_, rfl, ?_⟩; have n0_ := Aside0.mk (Kd.R_lower ho0 (below_size (by repeat (first | (with_reducible first | exact HB.out | apply below_alloc | apply pw_below_drewN | apply below_drew1 | refine below_set ?_ GE179.out) | exact HB.out)))); have n1_ := Aside0.mk (blk_below (g := gb179) (o := .cells #[.slice none 0 0, .slice none 0 0] 25 (0, 0)) (by (with_reducible repeat (first | refine blk_drewN ?_ _ | refine blk_drew ?_ | refine blk_alloc ?_ _)); exact BK179.out) hb); have n2_ := Aside0.mk (below_step (by repeat (first | (with_reducible first | exact HB.out | apply below_alloc | apply pw_below_drewN | apply below_drew1 | refine below_set ?_ GE179.out) | exact HB.out)) hb); clear BK179; clear HB; have HO182 := n0_; have BK179 := n1_; have HB := n2_; clear n0_ n1_ n2_; (try clear hb); (try clear hb2); (try clear hk); (try clear hi); (try clear ho0); obtain ⟨Ao13, co13, eo13⟩ := Kd.R_slice HO182.out; subst eo13; have p183 : 0 ≤ (0 : Int) := (by omega); have q183 : 0 < (t180.length : Int) := of_decide_eq_true (by first | (with_reducible assumption) | assumption); obtain ⟨ad183, e183, hx183_0⟩ := Kd.at_string (Kd.R_reads' HO182.out).2.2 0 p183 q183; cases e183; have qi183 : (0 < t180.length) = True := eq_true (by omega); (try rw [show ((0 : Int)).toNat = 0 from rfl] at hx183_0); (try rw [Addr.add_zero'] at hx183_0); replace p183 := eq_true p183; replace q183 := eq_true q183) | ((with_reducible refine gate_callee (f := 11) rfl ?_); refine goesL_ (some 18) rfl rfl Tryd.func11 (by kernel_rfl) rfl #[.string (rdOf ByteArray.empty t180 0)] rfl (by (try simp only [List.map_toArray, List.map_cons, List.map_nil]); first | done | rfl | (simp only [List.length_drop, List.length_take]; rfl)) ?_; (with_reducible refine (impl_numbersOf.calls k (rdOf ByteArray.empty t180 0) t184 _ A9.out).mono ?_); rintro e w14 ⟨v185, rfl, ho0, hb⟩; refine ⟨_, rfl, ?_⟩; have n0_ := Aside0.mk (Kd.R_below (by (with_reducible repeat (first | apply Kd.R_alloc | apply Kd.R_drewN | apply Kd.R_drew)); exact HO182.out) hb); have n1_ := Aside0.mk (Kd.R_lower ho0 (below_size (by repeat (first | (with_reducible first | exact HB.out | apply below_alloc | apply pw_below_drewN | apply below_drew1 | refine below_set ?_ GE179.out) | exact HB.out)))); have n2_ := Aside0.mk (blk_below (g := gb179) (o := .cells #[.slice none 0 0, .slice none 0 0] 25 (0, 0)) (by (with_reducible repeat (first | refine blk_drewN ?_ _ | refine blk_drew ?_ | refine blk_alloc ?_ _)); exact BK179.out) hb); have n3_ := Aside0.mk (below_step (by repeat (first | (with_reducible first | exact HB.out | apply below_alloc | apply pw_below_drewN | apply below_drew1 | refine below_set ?_ GE179.out) | exact HB.out)) hb); clear HO182; clear BK179; clear HB; have HO182 := n0_; have HO186 := n1_; have BK179 := n2_; have HB := n3_; clear n0_ n1_ n2_ n3_; (try clear hb); (try clear hb2); (try clear hk); (try clear hi); (try clear ho0); obtain ⟨Ao15, co15, eo15⟩ := Kd.R_slice HO186.out; subst eo15) | ((with_reducible refine gate_dst (N := 5) rfl ?_); refine box_event ?hg (N := 5) ?hd (cs := #[.slice none 0 0, .slice none 0 0]) (t := 25) ?hr ?_; (case hd => rfl); (case hg => rfl); (case hr => first | (go_simp; done) | (go_simp; rfl)); intro gb187 hg w16 hbox hb; have n0_ := Aside0.mk (Kd.R_below (by (with_reducible repeat (first | apply Kd.R_alloc | apply Kd.R_drewN | apply Kd.R_drew)); exact HO182.out) hb); have n1_ := Aside0.mk (Kd.R_below (by (with_reducible repeat (first | apply Kd.R_alloc | apply Kd.R_drewN | apply Kd.R_drew)); exact HO186.out) hb); have n2_ := Aside0.mk (blk_below (g := gb179) (o := .cells #[.slice none 0 0, .slice none 0 0] 25 (0, 0)) (by (with_reducible repeat (first | refine blk_drewN ?_ _ | refine blk_drew ?_ | refine blk_alloc ?_ _)); exact BK179.out) hb); have n3_ := Aside0.mk (below_step (by repeat (first | (with_reducible first | exact HB.out | apply below_alloc | apply pw_below_drewN | apply below_drew1 | refine below_set ?_ GE179.out) | exact HB.out)) hb); have n4_ := Aside0.mk (hbox); have n5_ := Aside0.mk ((by rw [hg]; exact (below_size (by repeat (first | (with_reducible first | exact HB.out | apply below_alloc | apply pw_below_drewN | apply below_drew1 | refine below_set ?_ GE179.out) | exact HB.out))) : w.heap.size ≤ gb187)); have n6_ := Aside0.mk ((by rw [hg]; exact (below_size (by repeat (first | (with_reducible first | exact HB.out | apply below_alloc | apply pw_below_drewN | apply below_drew1 | refine below_set ?_ GE179.out) | exact HB.out))) : w.heap.size ≤ gb187)); have n7_ := Aside0.mk ((by rw [hg]; exact Nat.ne_of_lt (blk_lt (g := gb179) (o := .cells #[.slice none 0 0, .slice none 0 0] 25 (0, 0)) (by (with_reducible repeat (first | refine blk_drewN ?_ _ | refine blk_drew ?_ | refine blk_alloc ?_ _)); exact BK179.out)) : gb179 ≠ gb187)); have n8_ := Aside0.mk ((by rw [hg]; exact Nat.ne_of_gt (blk_lt (g := gb179) (o := .cells #[.slice none 0 0, .slice none 0 0] 25 (0, 0)) (by (with_reducible repeat (first | refine blk_drewN ?_ _ | refine blk_drew ?_ | refine blk_alloc ?_ _)); exact BK179.out)) : gb187 ≠ gb179)); clear HO182; clear HO186; clear BK179; clear HB; have HO182 := n0_; have HO186 := n1_; have BK179 := n2_; have HB := n3_; have BK187 := n4_; have GW187 := n5_; have GE187 := n6_; have NB179_187 := n7_; have NB187_179 := n8_; clear n0_ n1_ n2_ n3_ n4_ n5_ n6_ n7_ n8_; clear hb hbox hg; have hnb17 := NB187_179.out; have hnc17 := NB179_187.out; have hcz18_0 : w16.cell? ⟨gb187, 0, none⟩ = some (.slice none 0 0) := (blk_cell BK187.out 0).trans rfl; have hcz18_1 : w16.cell? ⟨gb187, 1, none⟩ = some (.slice none 0 0) := (blk_cell BK187.out 1).trans rfl; have hfz18_0 := blk_frozen BK187.out 0; have hfz18_1 := blk_frozen BK187.out 1) | ((with_reducible refine gate_store (t := 25) (p := 5) rfl ?_); refine store_event (t := 25) (p := 5) (v := ?vo_w19) (w1 := ((w16.setCell ⟨gb187, 0, none⟩ (.slice Ao15 t184.length co15)).setCell ⟨gb187, 1, none⟩ (.slice none 0 0))) ?hg ?ho ?hn ?hr ?_; (case ho => rfl); (case hg => rfl); (case hn => rfl); (case hr => first | (go_simp; done) | (go_simp; rfl)); intro w19 hw; have n0_ : Aside0 (Kd.R Kd.string 9 w19 w.heap.size (fun _ => True) (.slice (some ad183) t180.length co13) t180) := ⟨(by rw [hw]; exact (by (with_reducible repeat (first | apply Kd.R_alloc | apply Kd.R_drewN | apply Kd.R_drew)); exact Kd.R_mono (Kd.R_far (p := ⟨gb187, 1, none⟩) (Kd.R_far (p := ⟨gb187, 0, none⟩) (Kd.R_types HO182.out BK187.out (by decide)) (fun _ hk => hk.2) (.slice Ao15 t184.length co15)) (fun _ hk => hk.2) (.slice none 0 0)) (fun _ hk => trivial)))⟩; have n1_ : Aside0 (Kd.R (Kd.int .i64) 3 w19 w.heap.size (fun _ => True) (.slice Ao15 t184.length co15) t184) := ⟨(by rw [hw]; exact (by (with_reducible repeat (first | apply Kd.R_alloc | apply Kd.R_drewN | apply Kd.R_drew)); exact Kd.R_mono (Kd.R_far (p := ⟨gb187, 1, none⟩) (Kd.R_far (p := ⟨gb187, 0, none⟩) (Kd.R_types HO186.out BK187.out (by decide)) (fun _ hk => hk.2) (.slice Ao15 t184.length co15)) (fun _ hk => hk.2) (.slice none 0 0)) (fun _ hk => trivial)))⟩; have n2_ : Aside0 (w19.heap[gb179]? = some (.cells #[.slice none 0 0, .slice none 0 0] 25 (0, 0))) := ⟨(by rw [hw]; exact (by (with_reducible repeat (first | refine blk_drewN ?_ _ | refine blk_drew ?_ | refine blk_alloc ?_ _)); refine blk_far ?_ NB179_187.out _; (with_reducible repeat (first | refine blk_drewN ?_ _ | refine blk_drew ?_ | refine blk_alloc ?_ _)); refine blk_far ?_ NB179_187.out _; (with_reducible repeat (first | refine blk_drewN ?_ _ | refine blk_drew ?_ | refine blk_alloc ?_ _)); exact BK179.out))⟩; have n3_ : Aside0 (w19.heap[gb187]? = some (.cells #[.slice Ao15 t184.length co15, .slice none 0 0] 25 (0, 0))) := ⟨(by rw [hw]; exact (by (with_reducible repeat (first | refine blk_drewN ?_ _ | refine blk_drew ?_ | refine blk_alloc ?_ _)); refine blk_put (cs := #[.slice Ao15 t184.length co15, .slice none 0 0]) ?_ 1 _ rfl; (with_reducible repeat (first | refine blk_drewN ?_ _ | refine blk_drew ?_ | refine blk_alloc ?_ _)); refine blk_put (cs := #[.slice none 0 0, .slice none 0 0]) ?_ 0 _ rfl; (with_reducible repeat (first | refine blk_drewN ?_ _ | refine blk_drew ?_ | refine blk_alloc ?_ _)); exact BK187.out))⟩; have n4_ : Aside0 (Below w.heap.size w w19) := ⟨(by rw [hw]; exact (by repeat (first | (with_reducible first | exact HB.out | apply below_alloc | apply pw_below_drewN | apply below_drew1 | refine below_set ?_ GE179.out | refine below_set ?_ GE187.out) | exact HB.out)))⟩; clear hw; clear HO182; clear HO186; clear BK179; clear BK187; clear HB; have HO182 := n0_; have HO186 := n1_; have BK179 := n2_; have BK187 := n3_; have HB := n4_; clear n0_ n1_ n2_ n3_ n4_; have q20 : (1 : Int) ≤ ((t180.length : Int) : Int) := of_decide_eq_true (by first | (with_reducible assumption) | assumption); obtain ⟨i020, hi020, _, hsz20, _⟩ := info_parts info9; have hroom20 : t180.length ≤ co13 := (Kd.R_reads' HO182.out).2.1; have hC20 : Kd.C Kd.string _ (some ad183) t180.length t180 := (Kd.R_reads' HO182.out).2.2; have hcut20 := cut_from (P := Tryd.prog) 31 9 .i64 Tryd.underlying31 hi020 1 hsz20 (some ad183) t180.length co13 1 (by omega) q20; have hr20 := Kd.C_drop (m := (1 : Int).toNat) (c := co13) hC20 (by omega) hroom20; obtain ⟨A20, hA20⟩ : ∃ A1, A1 = (if co13 = (1 : Int).toNat then (some ad183) else ((some ad183) : Option Addr).map (·.add ((1 : Int).toNat * 1))) := ⟨_, rfl⟩; obtain ⟨c20, hc20⟩ : ∃ c1, c1 = co13 - (1 : Int).toNat := ⟨_, rfl⟩; have hy20 : y188.length = t180.length - (1 : Int).toNat := (by rw [Ny188.out, List.length_drop] <;> omega); rw [show (t180).drop (1 : Int).toNat = y188 from Ny188.out.symm] at hr20; replace hr20 : Kd.C Kd.string _ A20 y188.length y188 := (by rw [hA20]; exact hr20); rw [← hy20, ← hA20, ← hc20] at hcut20; have HR191 := Aside0.mk hr20; have HC191 := Aside0.mk (show y188.length ≤ c20 from by rw [hy20, hc20]; exact Nat.sub_le_sub_right hroom20 _); clear hr20 hC20 hroom20 hi020 hsz20 hc20; have KY20 := Aside0.mk hy20; have KA20 := Aside0.mk hA20; clear hy20 hA20; have KL20 := Aside0.mk (show 1 ≤ t180.length from by omega); replace q20 := eq_true q20))
    go_loopg [23] k (fun kq v23 w' => ∃ (x23_1 : Int) (x188001_1 : List (S35)) (u188001 : Value), v23 = .int .i64 x23_1 ∧ Aside0 (impl_ParseBolts.l0 kq y188 (y188.length : Int) x23_1 t184 x188001_1 = some (r1, r2, r3)) ∧ Aside0 (kq ≤ k) ∧ Aside0 (Kd.R (Kd.int .i64) 3 w' w.heap.size (fun _ => True) (.slice Ao15 t184.length co15) t184) ∧ Aside0 (Kd.R Kd.string 9 w' w.heap.size (fun _ => True) (.slice (some ad183) t180.length co13) t180) ∧ Aside0 (Kd.R k35 35 w' w.heap.size (fun _ => True) u188001 x188001_1) ∧ Aside0 (w'.heap[gb179]? = some (.cells #[(.slice none 0 0), (.slice none 0 0)] 25 (0, 0))) ∧ Aside0 (w'.heap[gb187]? = some (.cells #[(.slice Ao15 t184.length co15), u188001] 25 (0, 0))) ∧ Aside0 (Below w.heap.size w w'))
    case atStart => exact ⟨(0), (([] : List (S35))), (.slice none 0 0), (by first | rfl | (simp; done) | (simp [*]; done)), H', ⟨Nat.le_refl _⟩, ⟨by (with_reducible repeat (first | apply Kd.R_alloc | apply Kd.R_drewN | apply Kd.R_drew)); exact HO186.out⟩, ⟨by (with_reducible repeat (first | apply Kd.R_alloc | apply Kd.R_drewN | apply Kd.R_drew)); exact HO182.out⟩, ⟨by first | exact Kd.R_nil _ _ _ _ _ | exact Kd.N_nil _ _ _ _ _ | exact Kd.V_nil _ _ _ _ _ | exact Kd.Q_nil _ _ _ _ _ | exact Kd.S_nil _ _ _ _ _⟩, ⟨by (with_reducible repeat (first | refine blk_drewN ?_ _ | refine blk_drew ?_ | refine blk_alloc ?_ _)); exact BK179.out⟩, ⟨by (with_reducible repeat (first | refine blk_drewN ?_ _ | refine blk_drew ?_ | refine blk_alloc ?_ _)); exact BK187.out⟩, ⟨by repeat (first | (with_reducible first | exact HB.out | apply below_alloc | apply pw_below_drewN | apply below_drew1 | refine below_set ?_ GE179.out | refine below_set ?_ GE187.out) | exact HB.out)⟩⟩
    case round =>
     clear H'
     try clear c1
     try clear p1
     try clear q1
     try clear hx1
     try clear qi1
     try clear c2
     try clear p2
     try clear q2
     try clear c3
     try clear c3b0
     try clear c3b1
     try clear c5
     try clear c8
     try clear c8b0
     try clear c8b1
     try clear c10
     try clear c10b0
     try clear c10b1
     try clear c11
     try clear c17
     try clear p18
     try clear q18
     try clear hx18
     try clear qi18
     try clear c20
     try clear q20
     try clear hcz18_0
     try clear hcz18_1
     try clear hcz7_0
     try clear hcz7_1
     try clear hfz18_0
     try clear hfz18_1
     try clear hfz7_0
     try clear hfz7_1
     try clear hx183_0
     try clear p183
     try clear q183
     try clear q20
     obtain ⟨x23_1, x188001_1, u188001, rfl, HA, HK1, HO_188000, HQP, HO_188001, BK179, BK187, HB⟩ := hrel
     cases gk with
     | zero => exact absurd HA.out (by simp [impl_ParseBolts.l0])
     | succ k1 =>
      have H := HA.out
      clear HA
      simp only [impl_ParseBolts.l0] at H
      by_cases c21 : x23_1 < (y188.length : Int)
      ·rw [if_pos c21] at H
       have c21b0 : decide (x23_1 < (y188.length : Int)) = true := decide_eq_true c21
       clear c21
       by_cases c22 : 0 ≤ x23_1
       ·rw [if_pos c22] at H
        have c22b0 : decide (0 ≤ x23_1) = true := decide_eq_true c22
        clear c22
        by_cases c23 : x23_1 < (y188.length : Int)
        ·rw [if_pos c23] at H
         have c23b0 : decide (x23_1 < (y188.length : Int)) = true := decide_eq_true c23
         clear c23
         replace H := Option.bind_eq_some_iff.mp H
         obtain ⟨t193, A240, H⟩ := H
         replace H : (if (t193.length : Int) = 4 then (if 0 < (t193.length : Int) then (if 1 < (t193.length : Int) then (if 2 < (t193.length : Int) then (if 3 < (t193.length : Int) then (if x188001_1.length < 4398046511104 then (impl_ParseBolts.l0 k1 y188 (y188.length : Int) (wrap64 (x23_1 + 1)) t184 (x188001_1 ++ [(⟨rd t193 0, rd t193 1, rd t193 2, rd t193 3⟩ : S35)])) else (none)) else (none)) else (none)) else (none)) else (none)) else (some (([] : List Int), ([] : List (S35)), false))) = some (r1, r2, r3) := H
         have A24 := Aside0.mk A240
         clear A240
         by_cases c25 : (t193.length : Int) = 4
         ·rw [if_pos c25] at H
          have c25b0 : ((t193.length : Int) == 4) = true := beq_iff_eq.mpr c25
          have c25b1 : ((t193.length : Int) != 4) = false := bne_eq_false_iff_eq.mpr c25
          clear c25
          by_cases c26 : 0 < (t193.length : Int)
          ·rw [if_pos c26] at H
           have c26b0 : decide (0 < (t193.length : Int)) = true := decide_eq_true c26
           have c26b1 : decide (0 < t193.length) = true := decide_eq_true (by omega)
           clear c26
           by_cases c27 : 1 < (t193.length : Int)
           ·rw [if_pos c27] at H
            have c27b0 : decide (1 < (t193.length : Int)) = true := decide_eq_true c27
            have c27b1 : decide (1 < t193.length) = true := decide_eq_true (by omega)
            clear c27
            by_cases c28 : 2 < (t193.length : Int)
            ·rw [if_pos c28] at H
             have c28b0 : decide (2 < (t193.length : Int)) = true := decide_eq_true c28
             have c28b1 : decide (2 < t193.length) = true := decide_eq_true (by omega)
             clear c28
             by_cases c29 : 3 < (t193.length : Int)
             ·rw [if_pos c29] at H
              have c29b0 : decide (3 < (t193.length : Int)) = true := decide_eq_true c29
              have c29b1 : decide (3 < t193.length) = true := decide_eq_true (by omega)
              clear c29
              by_cases c30 : x188001_1.length < 4398046511104
              ·rw [if_pos c30] at H
               have LMc30 := Aside0.mk c30
               clear c30
               obtain ⟨y200, hy200⟩ : ∃ y_ : List (S35), y_ = (x188001_1 ++ [(⟨rd t193 0, rd t193 1, rd t193 2, rd t193 3⟩ : S35)]) := ⟨_, rfl⟩
               replace H : (impl_ParseBolts.l0 k1 y188 (y188.length : Int) (wrap64 (x23_1 + 1)) t184 y200) = some (r1, r2, r3) := by first | (rw [hy200]; with_reducible exact H) | (have H2_ := (Option.bind_some _ _).symm.trans H; rw [hy200]; with_reducible exact H2_) | (have H2_ := (Option.bind_some _ _).symm.trans H; with_reducible exact H2_) | with_reducible exact H | (rw [hy200]; exact H) | exact H
               have Ny200 := Aside0.mk hy200
               clear hy200
               have H' := Aside0.mk H
               clear H
               have p192 : 0 ≤ (x23_1 : Int) := of_decide_eq_true (by first | (with_reducible assumption) | assumption)
               have q192 : x23_1 < (y188.length : Int) := of_decide_eq_true (by first | (with_reducible assumption) | assumption)
               have hcq_ := Kd.C_drop (m := (1 : Int).toNat) (c := co13) (Kd.R_reads' HQP.out).2.2 (by have := KL20.out; omega) (Kd.R_reads' HQP.out).2.1
               rw [show (t180).drop (1 : Int).toNat = y188 from Ny188.out.symm] at hcq_
               replace hcq_ : Kd.C Kd.string _ A20 y188.length y188 := (by rw [KA20.out]; exact hcq_)
               obtain ⟨ad192, e192, hx192_0⟩ := Kd.at_string hcq_ x23_1 p192 q192
               cases e192
               replace p192 := eq_true p192
               replace q192 := eq_true q192
               try go_wp2_with (first | ((with_reducible refine gate_callee (f := 11) rfl ?_); refine goesL_ (some 28) rfl rfl Tryd.func11 (by kernel_rfl) rfl #[.string (rdOf ByteArray.empty y188 x23_1)] rfl (by (try simp only [List.map_toArray, List.map_cons, List.map_nil]); first | done | rfl | (simp only [List.length_drop, List.length_take]; rfl)) ?_; (with_reducible refine (impl_numbersOf.calls k1 (rdOf ByteArray.empty y188 x23_1) t193 _ A24.out).mono ?_); rintro e w31 ⟨v194, rfl, ho0, hb⟩; refine ⟨_, rfl, ?_⟩; have n0_ := Aside0.mk (Kd.R_elder' (by (with_reducible repeat (first | apply Kd.R_alloc | apply Kd.R_drewN | apply Kd.R_drew)); exact HO_188000.out) (Kd.R_base ho0) hb); have nq_ := Aside0.mk (Kd.R_elder' (by (with_reducible repeat (first | apply Kd.R_alloc | apply Kd.R_drewN | apply Kd.R_drew)); exact HQP.out) (Kd.R_base ho0) hb); have n1_ := Aside0.mk (Kd.R_below (by (with_reducible repeat (first | apply Kd.R_alloc | apply Kd.R_drewN | apply Kd.R_drew)); exact HO_188001.out) hb); have n2_ := Aside0.mk (Kd.R_lower (Kd.R_new' ho0 (Kd.R_lt (by (with_reducible repeat (first | apply Kd.R_alloc | apply Kd.R_drewN | apply Kd.R_drew)); exact HO_188000.out))) (below_size (by repeat (first | (with_reducible first | exact HB.out | apply below_alloc | apply pw_below_drewN | apply below_drew1 | refine below_set ?_ GE179.out | refine below_set ?_ GE187.out) | exact HB.out)))); have n3_ := Aside0.mk (blk_below (g := gb179) (o := .cells #[.slice none 0 0, .slice none 0 0] 25 (0, 0)) (by (with_reducible repeat (first | refine blk_drewN ?_ _ | refine blk_drew ?_ | refine blk_alloc ?_ _)); exact BK179.out) hb); have n4_ := Aside0.mk (blk_below (g := gb187) (o := .cells #[.slice Ao15 t184.length co15, u188001] 25 (0, 0)) (by (with_reducible repeat (first | refine blk_drewN ?_ _ | refine blk_drew ?_ | refine blk_alloc ?_ _)); exact BK187.out) hb); have n5_ := Aside0.mk (below_step (by repeat (first | (with_reducible first | exact HB.out | apply below_alloc | apply pw_below_drewN | apply below_drew1 | refine below_set ?_ GE179.out | refine below_set ?_ GE187.out) | exact HB.out)) hb); clear HO_188000; clear HQP; clear HO_188001; clear BK179; clear BK187; clear HB; have HO_188000 := n0_; have HQP := nq_; have HO_188001 := n1_; have HO195 := n2_; have BK179 := n3_; have BK187 := n4_; have HB := n5_; clear nq_ n0_ n1_ n2_ n3_ n4_ n5_; (try clear hb); (try clear hb2); (try clear hk); (try clear hi); (try clear ho0); obtain ⟨Ao32, co32, eo32⟩ := Kd.R_slice HO195.out; subst eo32))
               have n0_ := Aside0.mk (Kd.R_drew HO_188000.out)
               have nq_ := Aside0.mk (Kd.R_drew HQP.out)
               have n1_ := Aside0.mk (Kd.R_drew HO_188001.out)
               have n2_ := Aside0.mk (Kd.R_drew HO195.out)
               have n3_ := Aside0.mk (blk_drew BK179.out)
               have n4_ := Aside0.mk (blk_drew BK187.out)
               have n5_ := Aside0.mk (below_drew1 HB.out)
               clear HO_188000
               clear HQP
               clear HO_188001
               clear HO195
               clear BK179
               clear BK187
               clear HB
               have HO_188000 := n0_
               have HQP := nq_
               have HO_188001 := n1_
               have HO195 := n2_
               have BK179 := n3_
               have BK187 := n4_
               have HB := n5_
               clear nq_ n0_ n1_ n2_ n3_ n4_ n5_
               have p196 : 0 ≤ (0 : Int) := (by omega)
               have q196 : 0 < (t193.length : Int) := of_decide_eq_true (by first | (with_reducible assumption) | assumption)
               obtain ⟨ad196, e196, hx196_0⟩ := Kd.at_int (Kd.R_reads' HO195.out).2.2 0 p196 q196
               cases e196
               have qi196 : (0 < t193.length) = True := eq_true (by omega)
               (try rw [show ((0 : Int)).toNat = 0 from rfl] at hx196_0)
               (try rw [Addr.add_zero'] at hx196_0)
               replace p196 := eq_true p196
               replace q196 := eq_true q196
               have p197 : 0 ≤ (1 : Int) := (by omega)
               have q197 : 1 < (t193.length : Int) := of_decide_eq_true (by first | (with_reducible assumption) | assumption)
               obtain ⟨ad197, e197, hx197_0⟩ := Kd.at_int (Kd.R_reads' HO195.out).2.2 1 p197 q197
               obtain rfl : ad196 = ad197 := (by injection e197)
               (try simp only [show (1 : Int).toNat = 1 from rfl, Nat.reduceMul, Nat.reduceEqDiff, Go.Addr.add, ↓reduceIte] at hx197_0)
               have qi197 : (1 < t193.length) = True := eq_true (by omega)
               (try rw [show ((1 : Int)).toNat = 1 from rfl] at hx197_0)
               replace p197 := eq_true p197
               replace q197 := eq_true q197
               have p198 : 0 ≤ (2 : Int) := (by omega)
               have q198 : 2 < (t193.length : Int) := of_decide_eq_true (by first | (with_reducible assumption) | assumption)
               obtain ⟨ad198, e198, hx198_0⟩ := Kd.at_int (Kd.R_reads' HO195.out).2.2 2 p198 q198
               obtain rfl : ad196 = ad198 := (by injection e198)
               (try simp only [show (2 : Int).toNat = 2 from rfl, Nat.reduceMul, Nat.reduceEqDiff, Go.Addr.add, ↓reduceIte] at hx198_0)
               have qi198 : (2 < t193.length) = True := eq_true (by omega)
               (try rw [show ((2 : Int)).toNat = 2 from rfl] at hx198_0)
               replace p198 := eq_true p198
               replace q198 := eq_true q198
               have p199 : 0 ≤ (3 : Int) := (by omega)
               have q199 : 3 < (t193.length : Int) := of_decide_eq_true (by first | (with_reducible assumption) | assumption)
               obtain ⟨ad199, e199, hx199_0⟩ := Kd.at_int (Kd.R_reads' HO195.out).2.2 3 p199 q199
               obtain rfl : ad196 = ad199 := (by injection e199)
               (try simp only [show (3 : Int).toNat = 3 from rfl, Nat.reduceMul, Nat.reduceEqDiff, Go.Addr.add, ↓reduceIte] at hx199_0)
               have qi199 : (3 < t193.length) = True := eq_true (by omega)
               (try rw [show ((3 : Int)).toNat = 3 from rfl] at hx199_0)
               replace p199 := eq_true p199
               replace q199 := eq_true q199
               refine start_ (n := 19) (S := fun w' => w'.cell? ⟨gb187, 0, none⟩ = some (.slice Ao15 t184.length co15) ∧ w'.cell? ⟨gb187, 1, none⟩ = some (u188001) ∧ w'.cell? ad196 = some (.int .i64 (rd t193 0)) ∧ w'.cell? ⟨ad196.block, ad196.off + 1, none⟩ = some (.int .i64 (rd t193 1)) ∧ w'.cell? ⟨ad196.block, ad196.off + 2, none⟩ = some (.int .i64 (rd t193 2)) ∧ w'.cell? ⟨ad196.block, ad196.off + 3, none⟩ = some (.int .i64 (rd t193 3))) (ds := [16, 18]) #[false, false, false, false, false, false, false, false, false, false, false, false, false, false, false, false, false, false, false] (by kernel_rfl) rfl rfl ⟨(blk_cell BK187.out 0).trans rfl, (blk_cell BK187.out 1).trans rfl, hx196_0, hx197_0, hx198_0, hx199_0⟩ (fun hHeld => ?_); refine with_tabW impl_ParseBolts.tab11 impl_ParseBolts.bits11 (fun HT_ HW_ => ?_)
               generalize w31.drew = w33 at HO_188000 HQP HO_188001 HO195 BK179 BK187 HB hx196_0 hx197_0 hx198_0 hx199_0 hHeld ⊢
               refine pure_ (i := 0) (N := some 33) (v := ?_) (a' := ?_) #[true, false, false, false, false, false, false, false, false, false, false, false, false, false, false, false, false, false, false] rfl rfl (any_of HT_.out (by kernel_rfl)) (fun _ _ _ h => h) (Or.inl ⟨by rfl, ?_⟩) ?_ ?_
               rotate_left
               ·intro w'
                go_simp
                with_reducible rfl
               rotate_left
               ·simp only [Act.put, List.setIfInBounds_toArray, List.set_cons_zero, List.set_cons_succ, i64_w, i32_w]
                rfl
               refine pure_ (i := 2) (N := some 35) (v := ?_) (a' := ?_) #[true, false, true, false, false, false, false, false, false, false, false, false, false, false, false, false, false, false, false] rfl rfl (any_of HT_.out (by kernel_rfl)) (fun _ _ _ h => h) (Or.inl ⟨by rfl, ?_⟩) ?_ ?_
               rotate_left
               ·intro w'
                go_simp
                with_reducible rfl
               rotate_left
               ·simp only [Act.put, List.setIfInBounds_toArray, List.set_cons_zero, List.set_cons_succ, i64_w, i32_w]
                rfl
               refine pure_ (i := 3) (N := some 36) (v := ?_) (a' := ?_) #[true, false, true, true, false, false, false, false, false, false, false, false, false, false, false, false, false, false, false] rfl rfl (any_of HT_.out (by kernel_rfl)) (fun _ _ _ h => h) (Or.inl ⟨by rfl, ?_⟩) ?_ ?_
               rotate_left
               ·intro w'
                go_simp
                with_reducible rfl
               rotate_left
               ·simp only [Act.put, List.setIfInBounds_toArray, List.set_cons_zero, List.set_cons_succ, i64_w, i32_w]
                rfl
               refine pure_ (i := 5) (N := some 38) (v := ?_) (a' := ?_) #[true, false, true, true, false, true, false, false, false, false, false, false, false, false, false, false, false, false, false] rfl rfl (any_of HT_.out (by kernel_rfl)) (fun _ _ _ h => h) (Or.inl ⟨by rfl, ?_⟩) ?_ ?_
               rotate_left
               ·intro w'
                go_simp
                with_reducible rfl
               rotate_left
               ·simp only [Act.put, List.setIfInBounds_toArray, List.set_cons_zero, List.set_cons_succ, i64_w, i32_w]
                rfl
               refine pure_ (i := 6) (N := some 39) (v := ?_) (a' := ?_) #[true, false, true, true, false, true, true, false, false, false, false, false, false, false, false, false, false, false, false] rfl rfl (any_of HT_.out (by kernel_rfl)) (fun _ _ _ h => h) (Or.inl ⟨by rfl, ?_⟩) ?_ ?_
               rotate_left
               ·intro w'
                go_simp
                with_reducible rfl
               rotate_left
               ·simp only [Act.put, List.setIfInBounds_toArray, List.set_cons_zero, List.set_cons_succ, i64_w, i32_w]
                rfl
               refine pure_ (i := 8) (N := some 41) (v := ?_) (a' := ?_) #[true, false, true, true, false, true, true, false, true, false, false, false, false, false, false, false, false, false, false] rfl rfl (any_of HT_.out (by kernel_rfl)) (fun _ _ _ h => h) (Or.inl ⟨by rfl, ?_⟩) ?_ ?_
               rotate_left
               ·intro w'
                go_simp
                with_reducible rfl
               rotate_left
               ·simp only [Act.put, List.setIfInBounds_toArray, List.set_cons_zero, List.set_cons_succ, i64_w, i32_w]
                rfl
               refine pure_ (i := 9) (N := some 42) (v := ?_) (a' := ?_) #[true, false, true, true, false, true, true, false, true, true, false, false, false, false, false, false, false, false, false] rfl rfl (any_of HT_.out (by kernel_rfl)) (fun _ _ _ h => h) (Or.inl ⟨by rfl, ?_⟩) ?_ ?_
               rotate_left
               ·intro w'
                go_simp
                with_reducible rfl
               rotate_left
               ·simp only [Act.put, List.setIfInBounds_toArray, List.set_cons_zero, List.set_cons_succ, i64_w, i32_w]
                rfl
               refine pure_ (i := 11) (N := some 44) (v := ?_) (a' := ?_) #[true, false, true, true, false, true, true, false, true, true, false, true, false, false, false, false, false, false, false] rfl rfl (any_of HT_.out (by kernel_rfl)) (fun _ _ _ h => h) (Or.inl ⟨by rfl, ?_⟩) ?_ ?_
               rotate_left
               ·intro w'
                go_simp
                with_reducible rfl
               rotate_left
               ·simp only [Act.put, List.setIfInBounds_toArray, List.set_cons_zero, List.set_cons_succ, i64_w, i32_w]
                rfl
               refine pure_ (i := 12) (N := some 45) (v := ?_) (a' := ?_) #[true, false, true, true, false, true, true, false, true, true, false, true, true, false, false, false, false, false, false] rfl rfl (any_of HT_.out (by kernel_rfl)) (fun _ _ _ h => h) (Or.inl ⟨by rfl, ?_⟩) ?_ ?_
               rotate_left
               ·intro w'
                go_simp
                with_reducible rfl
               rotate_left
               ·simp only [Act.put, List.setIfInBounds_toArray, List.set_cons_zero, List.set_cons_succ, i64_w, i32_w]
                rfl
               refine take_ (i := 1) (N := some 34) (v := ?_) (a' := ?_) #[true, true, true, true, false, true, true, false, true, true, false, true, true, false, false, false, false, false, false] rfl rfl (take_ofW HT_.out HW_.out (by kernel_rfl)) (fun _ _ _ h => h) (Or.inl ⟨by rfl, ?_⟩) hHeld ?_ ?_
               rotate_left
               ·rintro w' ⟨s0, s1, s2, s3, s4, s5⟩
                go_simp
                with_reducible rfl
               rotate_left
               ·simp only [Act.put, List.setIfInBounds_toArray, List.set_cons_zero, List.set_cons_succ, i64_w, i32_w]
                rfl
               refine take_ (i := 4) (N := some 37) (v := ?_) (a' := ?_) #[true, true, true, true, true, true, true, false, true, true, false, true, true, false, false, false, false, false, false] rfl rfl (take_ofW HT_.out HW_.out (by kernel_rfl)) (fun _ _ _ h => h) (Or.inl ⟨by rfl, ?_⟩) hHeld ?_ ?_
               rotate_left
               ·rintro w' ⟨s0, s1, s2, s3, s4, s5⟩
                go_simp
                with_reducible rfl
               rotate_left
               ·simp only [Act.put, List.setIfInBounds_toArray, List.set_cons_zero, List.set_cons_succ, i64_w, i32_w]
                rfl
               refine take_ (i := 7) (N := some 40) (v := ?_) (a' := ?_) #[true, true, true, true, true, true, true, true, true, true, false, true, true, false, false, false, false, false, false] rfl rfl (take_ofW HT_.out HW_.out (by kernel_rfl)) (fun _ _ _ h => h) (Or.inl ⟨by rfl, ?_⟩) hHeld ?_ ?_
               rotate_left
               ·rintro w' ⟨s0, s1, s2, s3, s4, s5⟩
                go_simp
                with_reducible rfl
               rotate_left
               ·simp only [Act.put, List.setIfInBounds_toArray, List.set_cons_zero, List.set_cons_succ, i64_w, i32_w]
                rfl
               refine take_ (i := 10) (N := some 43) (v := ?_) (a' := ?_) #[true, true, true, true, true, true, true, true, true, true, true, true, true, false, false, false, false, false, false] rfl rfl (take_ofW HT_.out HW_.out (by kernel_rfl)) (fun _ _ _ h => h) (Or.inl ⟨by rfl, ?_⟩) hHeld ?_ ?_
               rotate_left
               ·rintro w' ⟨s0, s1, s2, s3, s4, s5⟩
                go_simp
                with_reducible rfl
               rotate_left
               ·simp only [Act.put, List.setIfInBounds_toArray, List.set_cons_zero, List.set_cons_succ, i64_w, i32_w]
                rfl
               refine take_ (i := 13) (N := some 46) (v := ?_) (a' := ?_) #[true, true, true, true, true, true, true, true, true, true, true, true, true, true, false, false, false, false, false] rfl rfl (take_ofW HT_.out HW_.out (by kernel_rfl)) (fun _ _ _ h => h) (Or.inl ⟨by rfl, ?_⟩) hHeld ?_ ?_
               rotate_left
               ·rintro w' ⟨s0, s1, s2, s3, s4, s5⟩
                go_simp
                with_reducible rfl
               rotate_left
               ·simp only [Act.put, List.setIfInBounds_toArray, List.set_cons_zero, List.set_cons_succ, i64_w, i32_w]
                rfl
               refine pure_ (i := 14) (N := some 47) (v := ?_) (a' := ?_) #[true, true, true, true, true, true, true, true, true, true, true, true, true, true, true, false, false, false, false] rfl rfl (any_of HT_.out (by kernel_rfl)) (fun _ _ _ h => h) (Or.inl ⟨by rfl, ?_⟩) ?_ ?_
               rotate_left
               ·intro w'
                go_simp
                with_reducible rfl
               rotate_left
               ·simp only [Act.put, List.setIfInBounds_toArray, List.set_cons_zero, List.set_cons_succ, i64_w, i32_w]
                rfl
               refine one_ (i := 15) (N := some 48) #[true, true, true, true, true, true, true, true, true, true, true, true, true, true, true, true, false, false, false] rfl rfl (one_of HT_.out (by kernel_rfl)) (by decide) (fun K hK => ?_)
               refine value_ (w1 := ?_) (v := ?_) (by rfl) rfl ?_ ?_
               rotate_left 2
               ·go_simp
                constructor
                ·rfl
                ·rfl
               refine hK.out _ _ ⟨(blk_cell (blk_alloc BK187.out _) 0).trans rfl, (blk_cell (blk_alloc BK187.out _) 1).trans rfl, (World.cell?_alloc_lt _ _ _ (World.block_lt_of_cell? _ _ (hHeld.2.2.1))).trans (hHeld.2.2.1), (World.cell?_alloc_lt _ _ _ (World.block_lt_of_cell? _ _ (hHeld.2.2.2.1))).trans (hHeld.2.2.2.1), (World.cell?_alloc_lt _ _ _ (World.block_lt_of_cell? _ _ (hHeld.2.2.2.2.1))).trans (hHeld.2.2.2.2.1), (World.cell?_alloc_lt _ _ _ (World.block_lt_of_cell? _ _ (hHeld.2.2.2.2.2))).trans (hHeld.2.2.2.2.2)⟩ (fun hHeld => ?_)
               clear hK K
               refine norm_ (a' := ?_) ?_ ?_
               rotate_left
               ·show Act.put _ (some 48) _ = _
                simp only [Act.put, List.setIfInBounds_toArray, List.set_cons_zero, List.set_cons_succ, i64_w, i32_w]
                rfl
               refine last_ (i := 16) (N := some 49) #[true, true, true, true, true, true, true, true, true, true, true, true, true, true, true, true, true, false, false] rfl rfl (one_of HT_.out (by kernel_rfl)) (by decide) (fun K hK => ?_)
               refine Kd.R_append_step k35 (w0 := w) w.heap.size (by rfl) (.tmp 34) (.tmp 48) 23 35 (.agg #[(.int .i64 0), (.int .i64 0), (.int .i64 0), (.int .i64 0)]) 32 rfl Tryd.underlying23 info35 rfl (by decide) (by omega) u188001 x188001_1 (⟨rd t193 0, rd t193 1, rd t193 2, rd t193 3⟩ : S35) [.int .i64 (rd t193 0), .int .i64 (rd t193 1), .int .i64 (rd t193 2), .int .i64 (rd t193 3)] (fun _ => True) (fun _ => False) rfl rfl ?aP (fun _ hk => hk.elim) ?aF ?aO ?aB ?aS ?aL ?_
               (case aP => exact k35_mkM _ _ _ (⟨rd t193 0, rd t193 1, rd t193 2, rd t193 3⟩ : S35))
               (case aB => exact (by repeat (first | (with_reducible first | exact HB.out | apply below_alloc | apply pw_below_drewN | apply below_drew1 | refine below_set ?_ GE179.out | refine below_set ?_ GE187.out) | exact HB.out)))
               (case aF => exact (fun _ _ => trivial))
               (case aO => exact (by (with_reducible repeat (first | apply Kd.R_alloc | apply Kd.R_drewN | apply Kd.R_drew)); exact HO_188001.out))
               (case aS => exact (below_size (by repeat (first | (with_reducible first | exact HB.out | apply below_alloc | apply pw_below_drewN | apply below_drew1 | refine below_set ?_ GE179.out | refine below_set ?_ GE187.out) | exact HB.out))))
               (case aL => have := LMc30.out; omega)
               intro v201 w34 ho hb hg hat
               rw [← Ny200.out] at ho
               have n0_ := Aside0.mk (Kd.R_over' (by (with_reducible repeat (first | apply Kd.R_alloc | apply Kd.R_drewN | apply Kd.R_drew)); exact HO_188000.out) (Kd.R_typed (by (with_reducible repeat (first | apply Kd.R_alloc | apply Kd.R_drewN | apply Kd.R_drew)); exact HO_188001.out)) (by decide) hg)
               have nq_ := Aside0.mk (Kd.R_over' (by (with_reducible repeat (first | apply Kd.R_alloc | apply Kd.R_drewN | apply Kd.R_drew)); exact HQP.out) (Kd.R_typed (by (with_reducible repeat (first | apply Kd.R_alloc | apply Kd.R_drewN | apply Kd.R_drew)); exact HO_188001.out)) (by decide) hg)
               have n1_ := Aside0.mk (blk_grown (g := gb179) (o := .cells #[.slice none 0 0, .slice none 0 0] 25 (0, 0)) (by (with_reducible repeat (first | refine blk_drewN ?_ _ | refine blk_drew ?_ | refine blk_alloc ?_ _)); exact BK179.out) hg (Kd.R_ne HO_188001.out BK179.out (by decide)))
               have n2_ := Aside0.mk (blk_grown (g := gb187) (o := .cells #[.slice Ao15 t184.length co15, u188001] 25 (0, 0)) (by (with_reducible repeat (first | refine blk_drewN ?_ _ | refine blk_drew ?_ | refine blk_alloc ?_ _)); exact BK187.out) hg (Kd.R_ne HO_188001.out BK187.out (by decide)))
               have n3_ := Aside0.mk (Kd.R_over' (by (with_reducible repeat (first | apply Kd.R_alloc | apply Kd.R_drewN | apply Kd.R_drew)); exact HO195.out) (Kd.R_typed (by (with_reducible repeat (first | apply Kd.R_alloc | apply Kd.R_drewN | apply Kd.R_drew)); exact HO_188001.out)) (by decide) hg)
               have n4_ := Aside0.mk (hb)
               have n5_ := Aside0.mk (ho)
               clear HO_188000
               clear HQP
               clear BK179
               clear BK187
               clear HO195
               clear HB
               clear HO_188001
               have HO_188000 := n0_
               have HQP := nq_
               have BK179 := n1_
               have BK187 := n2_
               have HO195 := n3_
               have HB := n4_
               have HO202 := n5_
               clear nq_ n0_ n1_ n2_ n3_ n4_ n5_
               clear ho hb hg hat
               obtain ⟨Ao35, co35, eo35⟩ := Kd.R_slice HO202.out
               (first | subst eo35 | (injection eo35 with f1_ f2_ f3_; have f4_ := f1_.symm; have f5_ := f3_.symm; clear f1_ f2_ f3_; subst f4_; subst f5_))
               refine hK.out _ _ ?_
               clear hK K
               refine norm_ (a' := ?_) ?_ ?_
               rotate_left
               ·show Act.put _ (some 49) _ = _
                simp only [Act.put, List.setIfInBounds_toArray, List.set_cons_zero, List.set_cons_succ, i64_w, i32_w]
                rfl
               refine pure_ (i := 17) (N := some 50) (v := ?_) (a' := ?_) #[true, true, true, true, true, true, true, true, true, true, true, true, true, true, true, true, true, true, false] rfl rfl (any_of HT_.out (by kernel_rfl)) (fun _ _ _ h => h) (Or.inl ⟨by rfl, ?_⟩) ?_ ?_
               rotate_left
               ·intro w'
                go_simp
                with_reducible rfl
               rotate_left
               ·simp only [Act.put, List.setIfInBounds_toArray, List.set_cons_zero, List.set_cons_succ, i64_w, i32_w]
                rfl
               refine last_ (i := 18) (N := none) #[true, true, true, true, true, true, true, true, true, true, true, true, true, true, true, true, true, true, true] rfl rfl (one_of HT_.out (by kernel_rfl)) (by decide) (fun K hK => ?_)
               have hs36 : w34.cell? ⟨gb187, 1, none⟩ = some (u188001) := (blk_cell BK187.out 1).trans rfl
               have hfs36 := blk_frozen BK187.out 1
               have hns36_0 := NB179_187.out
               have hms36_0 := NB187_179.out
               refine skip_ (w1 := ?_) (by rfl) rfl ?_ ?_
               rotate_left
               ·go_simp
                rfl
               refine hK.out _ _ ?_
               clear hK K
               refine done_ (done_of HT_.out (by kernel_rfl)) ?_
               try go_wp2
               go_roundg k1
               case measure => have := HK1.out; omega
               case rel => exact ⟨(wrap64 (x23_1 + 1)), (y200), (.slice Ao35 y200.length co35), (by first | rfl | (simp; done) | (simp [*]; done)), H', ⟨by have := HK1.out; omega⟩, ⟨by (with_reducible repeat (first | apply Kd.R_alloc | apply Kd.R_drewN | apply Kd.R_drew)); exact Kd.R_mono (Kd.R_far (p := ⟨gb187, 1, none⟩) (Kd.R_types HO_188000.out BK187.out (by decide)) (fun _ hk => hk.2) (.slice Ao35 y200.length co35)) (fun _ hk => trivial)⟩, ⟨by (with_reducible repeat (first | apply Kd.R_alloc | apply Kd.R_drewN | apply Kd.R_drew)); exact Kd.R_mono (Kd.R_far (p := ⟨gb187, 1, none⟩) (Kd.R_types HQP.out BK187.out (by decide)) (fun _ hk => hk.2) (.slice Ao35 y200.length co35)) (fun _ hk => trivial)⟩, ⟨by (with_reducible repeat (first | apply Kd.R_alloc | apply Kd.R_drewN | apply Kd.R_drew)); exact Kd.R_mono (Kd.R_far (p := ⟨gb187, 1, none⟩) (Kd.R_types HO202.out BK187.out (by decide)) (fun _ hk => hk.2) (.slice Ao35 y200.length co35)) (fun _ hk => trivial)⟩, ⟨by (with_reducible repeat (first | refine blk_drewN ?_ _ | refine blk_drew ?_ | refine blk_alloc ?_ _)); refine blk_far ?_ NB179_187.out _; (with_reducible repeat (first | refine blk_drewN ?_ _ | refine blk_drew ?_ | refine blk_alloc ?_ _)); exact BK179.out⟩, ⟨by (with_reducible repeat (first | refine blk_drewN ?_ _ | refine blk_drew ?_ | refine blk_alloc ?_ _)); refine blk_put (cs := #[.slice Ao15 t184.length co15, u188001]) ?_ 1 _ rfl; (with_reducible repeat (first | refine blk_drewN ?_ _ | refine blk_drew ?_ | refine blk_alloc ?_ _)); exact BK187.out⟩, ⟨by repeat (first | (with_reducible first | exact HB.out | apply below_alloc | apply pw_below_drewN | apply below_drew1 | refine below_set ?_ GE179.out | refine below_set ?_ GE187.out) | exact HB.out)⟩⟩
              ·rw [if_neg c30] at H
               exact absurd H (by simp)
             ·rw [if_neg c29] at H
              exact absurd H (by simp)
            ·rw [if_neg c28] at H
             exact absurd H (by simp)
           ·rw [if_neg c27] at H
            exact absurd H (by simp)
          ·rw [if_neg c26] at H
           exact absurd H (by simp)
         ·rw [if_neg c25] at H
          have c25b0 : ((t193.length : Int) == 4) = false := beq_eq_false_iff_ne.mpr c25
          have c25b1 : ((t193.length : Int) != 4) = true := bne_iff_ne.mpr c25
          simp only [Option.some.injEq, Prod.mk.injEq] at H
          obtain ⟨rfl, rfl, rfl⟩ := H
          have p192 : 0 ≤ (x23_1 : Int) := of_decide_eq_true (by first | (with_reducible assumption) | assumption)
          have q192 : x23_1 < (y188.length : Int) := of_decide_eq_true (by first | (with_reducible assumption) | assumption)
          have hcq_ := Kd.C_drop (m := (1 : Int).toNat) (c := co13) (Kd.R_reads' HQP.out).2.2 (by have := KL20.out; omega) (Kd.R_reads' HQP.out).2.1
          rw [show (t180).drop (1 : Int).toNat = y188 from Ny188.out.symm] at hcq_
          replace hcq_ : Kd.C Kd.string _ A20 y188.length y188 := (by rw [KA20.out]; exact hcq_)
          obtain ⟨ad192, e192, hx192_0⟩ := Kd.at_string hcq_ x23_1 p192 q192
          cases e192
          replace p192 := eq_true p192
          replace q192 := eq_true q192
          go_wp2_with (first | ((with_reducible refine gate_callee (f := 11) rfl ?_); refine goesL_ (some 28) rfl rfl Tryd.func11 (by kernel_rfl) rfl #[.string (rdOf ByteArray.empty y188 x23_1)] rfl (by (try simp only [List.map_toArray, List.map_cons, List.map_nil]); first | done | rfl | (simp only [List.length_drop, List.length_take]; rfl)) ?_; (with_reducible refine (impl_numbersOf.calls k1 (rdOf ByteArray.empty y188 x23_1) t193 _ A24.out).mono ?_); rintro e w37 ⟨v194, rfl, ho0, hb⟩; refine ⟨_, rfl, ?_⟩; have n0_ := Aside0.mk (Kd.R_elder' (by (with_reducible repeat (first | apply Kd.R_alloc | apply Kd.R_drewN | apply Kd.R_drew)); exact HO_188000.out) (Kd.R_base ho0) hb); have nq_ := Aside0.mk (Kd.R_elder' (by (with_reducible repeat (first | apply Kd.R_alloc | apply Kd.R_drewN | apply Kd.R_drew)); exact HQP.out) (Kd.R_base ho0) hb); have n1_ := Aside0.mk (Kd.R_below (by (with_reducible repeat (first | apply Kd.R_alloc | apply Kd.R_drewN | apply Kd.R_drew)); exact HO_188001.out) hb); have n2_ := Aside0.mk (Kd.R_lower (Kd.R_new' ho0 (Kd.R_lt (by (with_reducible repeat (first | apply Kd.R_alloc | apply Kd.R_drewN | apply Kd.R_drew)); exact HO_188000.out))) (below_size (by repeat (first | (with_reducible first | exact HB.out | apply below_alloc | apply pw_below_drewN | apply below_drew1 | refine below_set ?_ GE179.out | refine below_set ?_ GE187.out) | exact HB.out)))); have n3_ := Aside0.mk (blk_below (g := gb179) (o := .cells #[.slice none 0 0, .slice none 0 0] 25 (0, 0)) (by (with_reducible repeat (first | refine blk_drewN ?_ _ | refine blk_drew ?_ | refine blk_alloc ?_ _)); exact BK179.out) hb); have n4_ := Aside0.mk (blk_below (g := gb187) (o := .cells #[.slice Ao15 t184.length co15, u188001] 25 (0, 0)) (by (with_reducible repeat (first | refine blk_drewN ?_ _ | refine blk_drew ?_ | refine blk_alloc ?_ _)); exact BK187.out) hb); have n5_ := Aside0.mk (below_step (by repeat (first | (with_reducible first | exact HB.out | apply below_alloc | apply pw_below_drewN | apply below_drew1 | refine below_set ?_ GE179.out | refine below_set ?_ GE187.out) | exact HB.out)) hb); clear HO_188000; clear HQP; clear HO_188001; clear BK179; clear BK187; clear HB; have HO_188000 := n0_; have HQP := nq_; have HO_188001 := n1_; have HO195 := n2_; have BK179 := n3_; have BK187 := n4_; have HB := n5_; clear nq_ n0_ n1_ n2_ n3_ n4_ n5_; (try clear hb); (try clear hb2); (try clear hk); (try clear hi); (try clear ho0); obtain ⟨Ao38, co38, eo38⟩ := Kd.R_slice HO195.out; subst eo38; have hnb39 := NB179_187.out; have hnc39 := NB187_179.out; have hcz40_0 : w37.cell? ⟨gb179, 0, none⟩ = some (.slice none 0 0) := (blk_cell BK179.out 0).trans rfl; have hcz40_1 : w37.cell? ⟨gb179, 1, none⟩ = some (.slice none 0 0) := (blk_cell BK179.out 1).trans rfl; have hfz40_0 := blk_frozen BK179.out 0; have hfz40_1 := blk_frozen BK179.out 1))
          refine bodyPost_ret (results_ct rfl _ _ gb179 25 #[.slice none 0 0, .slice none 0 0] (0, 0) _ rfl (by (with_reducible repeat (first | refine blk_drewN ?_ _ | refine blk_drew ?_ | refine blk_alloc ?_ _)); refine blk_put (cs := #[.slice none 0 0, .slice none 0 0]) ?_ 1 _ rfl; (with_reducible repeat (first | refine blk_drewN ?_ _ | refine blk_drew ?_ | refine blk_alloc ?_ _)); refine blk_put (cs := #[.slice none 0 0, .slice none 0 0]) ?_ 0 _ rfl; (with_reducible repeat (first | refine blk_drewN ?_ _ | refine blk_drew ?_ | refine blk_alloc ?_ _)); exact BK179.out) Tryd.underlying25 rfl (by kernel_rfl)) rfl ?_
          exact ⟨_, _, by first | rfl | (simp [errW_none, errW_some] <;> rfl) | (simp [*, errW_none, errW_some] <;> rfl), by first | exact Kd.R_nil _ _ _ _ _ | exact Kd.N_nil _ _ _ _ _ | exact Kd.V_nil _ _ _ _ _ | exact Kd.Q_nil _ _ _ _ _ | exact Kd.S_nil _ _ _ _ _, by first | exact Kd.R_nil _ _ _ _ _ | exact Kd.N_nil _ _ _ _ _ | exact Kd.V_nil _ _ _ _ _ | exact Kd.Q_nil _ _ _ _ _ | exact Kd.S_nil _ _ _ _ _, by repeat (first | (with_reducible first | exact HB.out | apply below_alloc | apply pw_below_drewN | apply below_drew1 | refine below_set ?_ GE179.out | refine below_set ?_ GE187.out) | exact HB.out)⟩
        ·rw [if_neg c23] at H
         exact absurd H (by simp)
       ·rw [if_neg c22] at H
        exact absurd H (by simp)
      ·rw [if_neg c21] at H
       have c21b0 : decide (x23_1 < (y188.length : Int)) = false := decide_eq_false c21
       clear c21
       replace H := Option.bind_eq_some_iff.mp H
       obtain ⟨t203, A410, H⟩ := H
       replace H : (if t203 = true then (some (t184, x188001_1, true)) else (some (([] : List Int), ([] : List (S35)), false))) = some (r1, r2, r3) := H
       have A41 := Aside0.mk A410
       clear A410
       by_cases c42 : t203 = true
       ·subst c42
        have H1 : (some (t184, x188001_1, true)) = some (r1, r2, r3) := by rw [if_pos rfl] at H; exact H
        clear H
        have H := H1
        clear H1
        simp only [Option.some.injEq, Prod.mk.injEq] at H
        obtain ⟨rfl, rfl, rfl⟩ := H
        have hnb43 := NB187_179.out
        have hnc43 := NB179_187.out
        have hcz44_0 : wr.cell? ⟨gb187, 0, none⟩ = some (.slice Ao15 t184.length co15) := (blk_cell BK187.out 0).trans rfl
        have hcz44_1 : wr.cell? ⟨gb187, 1, none⟩ = some (u188001) := (blk_cell BK187.out 1).trans rfl
        have hfz44_0 := blk_frozen BK187.out 0
        have hfz44_1 := blk_frozen BK187.out 1
        obtain ⟨Ao45, co45, eo45⟩ := Kd.R_slice HO_188001.out
        subst eo45
        go_wp2_with (first | ((with_reducible refine gate_callee (f := 12) rfl ?_); refine goesL_ (some 53) rfl rfl Tryd.func12 (by kernel_rfl) rfl #[.agg #[.slice Ao15 t184.length co15, .slice Ao45 x188001_1.length co45]] rfl (by (try simp only [List.map_toArray, List.map_cons, List.map_nil]); first | done | rfl | (simp only [List.length_drop, List.length_take]; rfl)) ?_; (with_reducible refine (impl_AreBolts.calls k1 _ _ t184 _ _ x188001_1 true _ ?side1 ?side2 ?side3 ?side4 A41.out).mono ?_); (case side1 => repeat (first | exact (Kd.R_reads' HO_188000.out).2.2 | (with_reducible refine Kd.C_alloc ?_ _) | (with_reducible refine Kd.C_drewN ?_ _) | (with_reducible refine Kd.C_drew ?_))); (case side2 => exact (Kd.R_reads' HO_188000.out).2.1); (case side3 => repeat (first | exact (Kd.R_reads' HO_188001.out).2.2 | (with_reducible refine Kd.C_alloc ?_ _) | (with_reducible refine Kd.C_drewN ?_ _) | (with_reducible refine Kd.C_drew ?_))); (case side4 => exact (Kd.R_reads' HO_188001.out).2.1); rintro e w46 ⟨rfl, hb⟩; refine ⟨_, rfl, ?_⟩; have n0_ := Aside0.mk (Kd.R_below (by (with_reducible repeat (first | apply Kd.R_alloc | apply Kd.R_drewN | apply Kd.R_drew)); exact HO_188000.out) hb); have nq_ := Aside0.mk (Kd.R_below (by (with_reducible repeat (first | apply Kd.R_alloc | apply Kd.R_drewN | apply Kd.R_drew)); exact HQP.out) hb); have n1_ := Aside0.mk (Kd.R_below (by (with_reducible repeat (first | apply Kd.R_alloc | apply Kd.R_drewN | apply Kd.R_drew)); exact HO_188001.out) hb); have n2_ := Aside0.mk (blk_below (g := gb179) (o := .cells #[.slice none 0 0, .slice none 0 0] 25 (0, 0)) (by (with_reducible repeat (first | refine blk_drewN ?_ _ | refine blk_drew ?_ | refine blk_alloc ?_ _)); exact BK179.out) hb); have n3_ := Aside0.mk (blk_below (g := gb187) (o := .cells #[.slice Ao15 t184.length co15, .slice Ao45 x188001_1.length co45] 25 (0, 0)) (by (with_reducible repeat (first | refine blk_drewN ?_ _ | refine blk_drew ?_ | refine blk_alloc ?_ _)); exact BK187.out) hb); have n4_ := Aside0.mk (below_step (by repeat (first | (with_reducible first | exact HB.out | apply below_alloc | apply pw_below_drewN | apply below_drew1 | refine below_set ?_ GE179.out | refine below_set ?_ GE187.out) | exact HB.out)) hb); clear HO_188000; clear HQP; clear HO_188001; clear BK179; clear BK187; clear HB; have HO_188000 := n0_; have HQP := nq_; have HO_188001 := n1_; have BK179 := n2_; have BK187 := n3_; have HB := n4_; clear nq_ n0_ n1_ n2_ n3_ n4_; (try clear hb); (try clear hb2); (try clear hk); (try clear hi); have hcz47_0 : w46.cell? ⟨gb187, 0, none⟩ = some (.slice Ao15 t184.length co15) := (blk_cell BK187.out 0).trans rfl; have hcz47_1 : w46.cell? ⟨gb187, 1, none⟩ = some (.slice Ao45 x188001_1.length co45) := (blk_cell BK187.out 1).trans rfl; have hfz47_0 := blk_frozen BK187.out 0; have hfz47_1 := blk_frozen BK187.out 1; have hcz48_0 : w46.cell? ⟨gb179, 0, none⟩ = some (.slice none 0 0) := (blk_cell BK179.out 0).trans rfl; have hcz48_1 : w46.cell? ⟨gb179, 1, none⟩ = some (.slice none 0 0) := (blk_cell BK179.out 1).trans rfl; have hfz48_0 := blk_frozen BK179.out 0; have hfz48_1 := blk_frozen BK179.out 1))
        refine bodyPost_ret (results_ct rfl _ _ gb179 25 #[.slice Ao15 t184.length co15, .slice Ao45 x188001_1.length co45] (0, 0) _ rfl (by (with_reducible repeat (first | refine blk_drewN ?_ _ | refine blk_drew ?_ | refine blk_alloc ?_ _)); refine blk_put (cs := #[.slice Ao15 t184.length co15, .slice none 0 0]) ?_ 1 _ rfl; (with_reducible repeat (first | refine blk_drewN ?_ _ | refine blk_drew ?_ | refine blk_alloc ?_ _)); refine blk_put (cs := #[.slice none 0 0, .slice none 0 0]) ?_ 0 _ rfl; (with_reducible repeat (first | refine blk_drewN ?_ _ | refine blk_drew ?_ | refine blk_alloc ?_ _)); exact BK179.out) Tryd.underlying25 rfl (by kernel_rfl)) rfl ?_
        exact ⟨_, _, by first | rfl | (simp [errW_none, errW_some] <;> rfl) | (simp [*, errW_none, errW_some] <;> rfl), by (with_reducible repeat (first | apply Kd.R_alloc | apply Kd.R_drewN | apply Kd.R_drew)); exact Kd.R_mono (Kd.R_far (p := ⟨gb179, 1, none⟩) (Kd.R_far (p := ⟨gb179, 0, none⟩) (Kd.R_types HO_188000.out BK179.out (by decide)) (fun _ hk => hk.2) (.slice Ao15 t184.length co15)) (fun _ hk => hk.2) (.slice Ao45 x188001_1.length co45)) (fun _ hk => trivial), by (with_reducible repeat (first | apply Kd.R_alloc | apply Kd.R_drewN | apply Kd.R_drew)); exact Kd.R_mono (Kd.R_far (p := ⟨gb179, 1, none⟩) (Kd.R_far (p := ⟨gb179, 0, none⟩) (Kd.R_types HO_188001.out BK179.out (by decide)) (fun _ hk => hk.2) (.slice Ao15 t184.length co15)) (fun _ hk => hk.2) (.slice Ao45 x188001_1.length co45)) (fun _ hk => trivial), by repeat (first | (with_reducible first | exact HB.out | apply below_alloc | apply pw_below_drewN | apply below_drew1 | refine below_set ?_ GE179.out | refine below_set ?_ GE187.out) | exact HB.out)⟩
       ·replace c42 := Bool.eq_false_iff.mpr c42
        subst c42
        have H1 : (some (([] : List Int), ([] : List (S35)), false)) = some (r1, r2, r3) := by rw [if_neg (show ¬ (false = true) by decide)] at H; exact H
        clear H
        have H := H1
        clear H1
        simp only [Option.some.injEq, Prod.mk.injEq] at H
        obtain ⟨rfl, rfl, rfl⟩ := H
        have hnb49 := NB187_179.out
        have hnc49 := NB179_187.out
        have hcz50_0 : wr.cell? ⟨gb187, 0, none⟩ = some (.slice Ao15 t184.length co15) := (blk_cell BK187.out 0).trans rfl
        have hcz50_1 : wr.cell? ⟨gb187, 1, none⟩ = some (u188001) := (blk_cell BK187.out 1).trans rfl
        have hfz50_0 := blk_frozen BK187.out 0
        have hfz50_1 := blk_frozen BK187.out 1
        obtain ⟨Ao51, co51, eo51⟩ := Kd.R_slice HO_188001.out
        subst eo51
        go_wp2_with (first | ((with_reducible refine gate_callee (f := 12) rfl ?_); refine goesL_ (some 53) rfl rfl Tryd.func12 (by kernel_rfl) rfl #[.agg #[.slice Ao15 t184.length co15, .slice Ao51 x188001_1.length co51]] rfl (by (try simp only [List.map_toArray, List.map_cons, List.map_nil]); first | done | rfl | (simp only [List.length_drop, List.length_take]; rfl)) ?_; (with_reducible refine (impl_AreBolts.calls k1 _ _ t184 _ _ x188001_1 false _ ?side1 ?side2 ?side3 ?side4 A41.out).mono ?_); (case side1 => repeat (first | exact (Kd.R_reads' HO_188000.out).2.2 | (with_reducible refine Kd.C_alloc ?_ _) | (with_reducible refine Kd.C_drewN ?_ _) | (with_reducible refine Kd.C_drew ?_))); (case side2 => exact (Kd.R_reads' HO_188000.out).2.1); (case side3 => repeat (first | exact (Kd.R_reads' HO_188001.out).2.2 | (with_reducible refine Kd.C_alloc ?_ _) | (with_reducible refine Kd.C_drewN ?_ _) | (with_reducible refine Kd.C_drew ?_))); (case side4 => exact (Kd.R_reads' HO_188001.out).2.1); rintro e w52 ⟨rfl, hb⟩; refine ⟨_, rfl, ?_⟩; have n0_ := Aside0.mk (Kd.R_below (by (with_reducible repeat (first | apply Kd.R_alloc | apply Kd.R_drewN | apply Kd.R_drew)); exact HO_188000.out) hb); have nq_ := Aside0.mk (Kd.R_below (by (with_reducible repeat (first | apply Kd.R_alloc | apply Kd.R_drewN | apply Kd.R_drew)); exact HQP.out) hb); have n1_ := Aside0.mk (Kd.R_below (by (with_reducible repeat (first | apply Kd.R_alloc | apply Kd.R_drewN | apply Kd.R_drew)); exact HO_188001.out) hb); have n2_ := Aside0.mk (blk_below (g := gb179) (o := .cells #[.slice none 0 0, .slice none 0 0] 25 (0, 0)) (by (with_reducible repeat (first | refine blk_drewN ?_ _ | refine blk_drew ?_ | refine blk_alloc ?_ _)); exact BK179.out) hb); have n3_ := Aside0.mk (blk_below (g := gb187) (o := .cells #[.slice Ao15 t184.length co15, .slice Ao51 x188001_1.length co51] 25 (0, 0)) (by (with_reducible repeat (first | refine blk_drewN ?_ _ | refine blk_drew ?_ | refine blk_alloc ?_ _)); exact BK187.out) hb); have n4_ := Aside0.mk (below_step (by repeat (first | (with_reducible first | exact HB.out | apply below_alloc | apply pw_below_drewN | apply below_drew1 | refine below_set ?_ GE179.out | refine below_set ?_ GE187.out) | exact HB.out)) hb); clear HO_188000; clear HQP; clear HO_188001; clear BK179; clear BK187; clear HB; have HO_188000 := n0_; have HQP := nq_; have HO_188001 := n1_; have BK179 := n2_; have BK187 := n3_; have HB := n4_; clear nq_ n0_ n1_ n2_ n3_ n4_; (try clear hb); (try clear hb2); (try clear hk); (try clear hi); have hcz53_0 : w52.cell? ⟨gb179, 0, none⟩ = some (.slice none 0 0) := (blk_cell BK179.out 0).trans rfl; have hcz53_1 : w52.cell? ⟨gb179, 1, none⟩ = some (.slice none 0 0) := (blk_cell BK179.out 1).trans rfl; have hfz53_0 := blk_frozen BK179.out 0; have hfz53_1 := blk_frozen BK179.out 1))
        refine bodyPost_ret (results_ct rfl _ _ gb179 25 #[.slice none 0 0, .slice none 0 0] (0, 0) _ rfl (by (with_reducible repeat (first | refine blk_drewN ?_ _ | refine blk_drew ?_ | refine blk_alloc ?_ _)); refine blk_put (cs := #[.slice none 0 0, .slice none 0 0]) ?_ 1 _ rfl; (with_reducible repeat (first | refine blk_drewN ?_ _ | refine blk_drew ?_ | refine blk_alloc ?_ _)); refine blk_put (cs := #[.slice none 0 0, .slice none 0 0]) ?_ 0 _ rfl; (with_reducible repeat (first | refine blk_drewN ?_ _ | refine blk_drew ?_ | refine blk_alloc ?_ _)); exact BK179.out) Tryd.underlying25 rfl (by kernel_rfl)) rfl ?_
        exact ⟨_, _, by first | rfl | (simp [errW_none, errW_some] <;> rfl) | (simp [*, errW_none, errW_some] <;> rfl), by first | exact Kd.R_nil _ _ _ _ _ | exact Kd.N_nil _ _ _ _ _ | exact Kd.V_nil _ _ _ _ _ | exact Kd.Q_nil _ _ _ _ _ | exact Kd.S_nil _ _ _ _ _, by first | exact Kd.R_nil _ _ _ _ _ | exact Kd.N_nil _ _ _ _ _ | exact Kd.V_nil _ _ _ _ _ | exact Kd.Q_nil _ _ _ _ _ | exact Kd.S_nil _ _ _ _ _, by repeat (first | (with_reducible first | exact HB.out | apply below_alloc | apply pw_below_drewN | apply below_drew1 | refine below_set ?_ GE179.out | refine below_set ?_ GE187.out) | exact HB.out)⟩
   ·rw [if_neg c10] at H
    exact absurd H (by simp)
  ·rw [if_neg c8] at H
   exact absurd H (by simp)

end Go.Proofs.YtfcphekdimeodaaDoor.A
