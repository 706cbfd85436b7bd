-- written by a program of this session's over the kit's print (xp.py)
import Derived.Test.YtclomifkpciefaaAx0
import Derived.Test.YtclomifkpciefaaAx1
import Derived.Test.YtclomifkpciefaaAx2
import Derived.Test.YtclomifkpciefaaAx7
import Derived.Test.YtclomifkpciefaaAx8
namespace Go.Proofs.Ytclomifkpciefaa.A
open Go.RowKit Go.Proofs.YtclomifkpciefaaW.PrintWords Go.Proofs.YtclomifkpciefaaW.PrintLast Go.Proofs.YtclomifkpciefaaW.PrintMore
attribute [local go_sem] max2_int min2_int max_two min_two max_three min_three max_four min_four   -- for this text's walks alone
set_option linter.unusedVariables false
set_option linter.unusedSimpArgs false

/-! ### laws_FnExactBarBolts: function 5 -/
mutual
def laws_FnExactBarBolts.j0 : Nat → Int → Bool → Bool → List Int → List (S67) → List Int → List (S67) → Option (Bool)
  | 0, _, _, _, _, _, _, _ => none
  | k + 1, x0, x4, x29, x293000, x293001, x301000, x301001 => if x29 = true then (some false) else ((laws_markBolts.f k x301000 x301001 1).bind fun bt302 => ((laws_heldBolts.f k bt302.2.1 bt302.2.2 1).bind fun t305 => (if t305 < 0 then (some false) else (if t305 = bt302.1 then ((impl_BarBolts.f k x0).bind fun bt306 => ((laws_eqBolts.f k bt306.1 bt306.2.1 x293000 x293001).bind fun t314 => (if t314 = true then (laws_FnExactBarBolts.j1 k bt302.1 (bt306.2.2 != x4) bt302.2.1 bt302.2.2) else (laws_FnExactBarBolts.j1 k bt302.1 true bt302.2.1 bt302.2.2)))) else (some false)))))
def laws_FnExactBarBolts.j1 : Nat → Int → Bool → List Int → List (S67) → Option (Bool)
  | 0, _, _, _, _ => none
  | k + 1, x7, x54, x301000, x301001 => if x54 = true then (some false) else ((laws_heldBolts.f k x301000 x301001 1).bind fun t315 => (if t315 < 0 then (some false) else (if t315 = x7 then (some true) else (some false))))
end
def laws_FnExactBarBolts.f (k : Nat) (a0 : Int) : Option (Bool) := (spec_BarBolts.f k a0).bind fun bt285 => ((impl_BarBolts.f k a0).bind fun bt293 => ((laws_eqBolts.f k bt293.1 bt293.2.1 bt285.1 bt285.2.1).bind fun t301 => (if t301 = true then (laws_FnExactBarBolts.j0 k a0 bt285.2.2 (bt293.2.2 != bt285.2.2) bt285.1 bt285.2.1 bt293.1 bt293.2.1) else (laws_FnExactBarBolts.j0 k a0 bt285.2.2 true bt285.1 bt285.2.1 bt293.1 bt293.2.1))))
theorem laws_FnExactBarBolts.mono_l : ∀ k, (∀ y0 y1 y2 y3 y4 y5 y6, LeO (laws_FnExactBarBolts.j0 k y0 y1 y2 y3 y4 y5 y6) (laws_FnExactBarBolts.j0 (k + 1) y0 y1 y2 y3 y4 y5 y6)) ∧ (∀ y0 y1 y2 y3, LeO (laws_FnExactBarBolts.j1 k y0 y1 y2 y3) (laws_FnExactBarBolts.j1 (k + 1) y0 y1 y2 y3))
  | 0 => ⟨fun _ _ _ _ _ _ _ r h => by simp [laws_FnExactBarBolts.j0] at h, fun _ _ _ _ r h => by simp [laws_FnExactBarBolts.j1] at h⟩
  | k + 1 => by
    obtain ⟨ih0, ih1⟩ := laws_FnExactBarBolts.mono_l k
    refine ⟨?_, ?_⟩
    · intro y0 y1 y2 y3 y4 y5 y6
      unfold laws_FnExactBarBolts.j0
      repeat' first
      | (with_reducible exact ih0 _ _ _ _ _ _ _)
      | (with_reducible exact ih1 _ _ _ _)
      | (with_reducible exact impl_BarBolts.mono _ _)
      | (with_reducible exact laws_eqBolts.mono _ _ _ _ _)
      | (with_reducible exact laws_heldBolts.mono _ _ _ _)
      | (with_reducible exact laws_markBolts.mono _ _ _ _)
      | (with_reducible exact spec_BarBolts.mono _ _)
      | (with_reducible exact LeO.refl _)
      | (with_reducible exact LeO.none _)
      | (with_reducible refine LeO.ite ?_ ?_)
      | (with_reducible refine LeO.bind ?_ (fun _ => ?_))
      | exact ih0 _ _ _ _ _ _ _
      | exact ih1 _ _ _ _
      | exact impl_BarBolts.mono _ _
      | exact laws_eqBolts.mono _ _ _ _ _
      | exact laws_heldBolts.mono _ _ _ _
      | exact laws_markBolts.mono _ _ _ _
      | exact spec_BarBolts.mono _ _
      | exact LeO.none _
      | refine LeO.ite ?_ ?_
      | refine LeO.bind ?_ (fun _ => ?_)
    · intro y0 y1 y2 y3
      unfold laws_FnExactBarBolts.j1
      repeat' first
      | (with_reducible exact ih0 _ _ _ _ _ _ _)
      | (with_reducible exact ih1 _ _ _ _)
      | (with_reducible exact impl_BarBolts.mono _ _)
      | (with_reducible exact laws_eqBolts.mono _ _ _ _ _)
      | (with_reducible exact laws_heldBolts.mono _ _ _ _)
      | (with_reducible exact laws_markBolts.mono _ _ _ _)
      | (with_reducible exact spec_BarBolts.mono _ _)
      | (with_reducible exact LeO.refl _)
      | (with_reducible exact LeO.none _)
      | (with_reducible refine LeO.ite ?_ ?_)
      | (with_reducible refine LeO.bind ?_ (fun _ => ?_))
      | exact ih0 _ _ _ _ _ _ _
      | exact ih1 _ _ _ _
      | exact impl_BarBolts.mono _ _
      | exact laws_eqBolts.mono _ _ _ _ _
      | exact laws_heldBolts.mono _ _ _ _
      | exact laws_markBolts.mono _ _ _ _
      | exact spec_BarBolts.mono _ _
      | exact LeO.none _
      | refine LeO.ite ?_ ?_
      | refine LeO.bind ?_ (fun _ => ?_)
theorem laws_FnExactBarBolts.mono : ∀ a0 k, LeO (laws_FnExactBarBolts.f k a0) (laws_FnExactBarBolts.f (k + 1) a0) := by
  intro a0 k
  obtain ⟨ih0, ih1⟩ := laws_FnExactBarBolts.mono_l k
  unfold laws_FnExactBarBolts.f
  repeat' first
      | (with_reducible exact ih0 _ _ _ _ _ _ _)
      | (with_reducible exact ih1 _ _ _ _)
      | (with_reducible exact impl_BarBolts.mono _ _)
      | (with_reducible exact laws_eqBolts.mono _ _ _ _ _)
      | (with_reducible exact laws_heldBolts.mono _ _ _ _)
      | (with_reducible exact laws_markBolts.mono _ _ _ _)
      | (with_reducible exact spec_BarBolts.mono _ _)
      | (with_reducible exact LeO.refl _)
      | (with_reducible exact LeO.none _)
      | (with_reducible refine LeO.ite ?_ ?_)
      | (with_reducible refine LeO.bind ?_ (fun _ => ?_))
      | exact ih0 _ _ _ _ _ _ _
      | exact ih1 _ _ _ _
      | exact impl_BarBolts.mono _ _
      | exact laws_eqBolts.mono _ _ _ _ _
      | exact laws_heldBolts.mono _ _ _ _
      | exact laws_markBolts.mono _ _ _ _
      | exact spec_BarBolts.mono _ _
      | exact LeO.none _
      | refine LeO.ite ?_ ?_
      | refine LeO.bind ?_ (fun _ => ?_)
set_option maxHeartbeats 8000000 in
set_option maxRecDepth 100000 in
theorem laws_FnExactBarBolts.calls (k : Nat) (a0 : Int) (r : Bool) (w : World) (h : laws_FnExactBarBolts.f k a0 = some r) :
    Calls Try.prog 5 #[.int .i64 a0] w fun e w' => e = .returned (.bool r) ∧ Below w.heap.size w w' := by
  have hu34 := Try.underlying34
  have HB := Aside0.mk (Below.refl w.heap.size w)
  have H : ((spec_BarBolts.f k a0).bind fun bt285 => ((impl_BarBolts.f k a0).bind fun bt293 => ((laws_eqBolts.f k bt293.1 bt293.2.1 bt285.1 bt285.2.1).bind fun t301 => (if t301 = true then (laws_FnExactBarBolts.j0 k a0 bt285.2.2 (bt293.2.2 != bt285.2.2) bt285.1 bt285.2.1 bt293.1 bt293.2.1) else (laws_FnExactBarBolts.j0 k a0 bt285.2.2 true bt285.1 bt285.2.1 bt293.1 bt293.2.1))))) = some r := h
  clear h
  replace H := Option.bind_eq_some_iff.mp H
  obtain ⟨⟨t285, t288, t291⟩, A20, H⟩ := H
  replace H : ((impl_BarBolts.f k a0).bind fun bt293 => ((laws_eqBolts.f k bt293.1 bt293.2.1 t285 t288).bind fun t301 => (if t301 = true then (laws_FnExactBarBolts.j0 k a0 t291 (bt293.2.2 != t291) t285 t288 bt293.1 bt293.2.1) else (laws_FnExactBarBolts.j0 k a0 t291 true t285 t288 bt293.1 bt293.2.1)))) = some r := H
  have A2 := Aside0.mk A20
  clear A20
  replace H := Option.bind_eq_some_iff.mp H
  obtain ⟨⟨t293, t296, t299⟩, A30, H⟩ := H
  replace H : ((laws_eqBolts.f k t293 t296 t285 t288).bind fun t301 => (if t301 = true then (laws_FnExactBarBolts.j0 k a0 t291 (t299 != t291) t285 t288 t293 t296) else (laws_FnExactBarBolts.j0 k a0 t291 true t285 t288 t293 t296))) = some r := H
  have A3 := Aside0.mk A30
  clear A30
  have HC4 := Aside0.mk H
  clear H
  go_enter Try.func5, Try.ntmps5
  go_upto_region 3 with (first | ((with_reducible refine gate_callee (f := 23) rfl ?_); refine goesL_ (some 13) rfl rfl Try.func23 (by kernel_rfl) rfl #[.int .i64 a0] rfl (by (try simp only [List.map_toArray, List.map_cons, List.map_nil]); first | done | rfl | (simp only [List.length_drop, List.length_take]; rfl)) ?_; (with_reducible refine (spec_BarBolts.calls k a0 t285 t288 t291 _ A2.out).mono ?_); rintro e w5 ⟨v286, v289, rfl, ho0, ho1, hb⟩; refine ⟨_, rfl, ?_⟩; have n0_ := Aside0.mk (Kd.R_lower ho0 (below_size (by repeat (first | (with_reducible first | exact HB.out | apply below_alloc | apply pw_below_drewN | apply below_drew1) | exact HB.out)))); have n1_ := Aside0.mk (Kd.R_lower ho1 (below_size (by repeat (first | (with_reducible first | exact HB.out | apply below_alloc | apply pw_below_drewN | apply below_drew1) | exact HB.out)))); have n2_ := Aside0.mk (below_step (by repeat (first | (with_reducible first | exact HB.out | apply below_alloc | apply pw_below_drewN | apply below_drew1) | exact HB.out)) hb); clear HB; have HO287 := n0_; have HO290 := n1_; have HB := n2_; clear n0_ n1_ n2_; (try clear hb); (try clear hb2); (try clear hk); (try clear hi); (try clear ho0); (try clear ho1)) | ((with_reducible refine gate_dst (N := 3) rfl ?_); refine box_event ?hg (N := 3) ?hd (cs := #[.slice none 0 0, .slice none 0 0]) (t := 34) ?hr ?_; (case hd => rfl); (case hg => rfl); (case hr => first | (go_simp; done) | (go_simp; rfl)); intro gb292 hg w6 hbox hb; have n0_ := Aside0.mk (Kd.R_below (by (with_reducible repeat (first | apply Kd.R_alloc | apply Kd.R_drewN | apply Kd.R_drew)); exact HO287.out) hb); have n1_ := Aside0.mk (Kd.R_below (by (with_reducible repeat (first | apply Kd.R_alloc | apply Kd.R_drewN | apply Kd.R_drew)); exact HO290.out) hb); have n2_ := Aside0.mk (below_step (by repeat (first | (with_reducible first | exact HB.out | apply below_alloc | apply pw_below_drewN | apply below_drew1) | exact HB.out)) hb); have n3_ := Aside0.mk (hbox); have n4_ := Aside0.mk ((by rw [hg]; exact (below_size (by repeat (first | (with_reducible first | exact HB.out | apply below_alloc | apply pw_below_drewN | apply below_drew1) | exact HB.out))) : w.heap.size ≤ gb292)); have n5_ := Aside0.mk ((by rw [hg]; exact (below_size (by repeat (first | (with_reducible first | exact HB.out | apply below_alloc | apply pw_below_drewN | apply below_drew1) | exact HB.out))) : w.heap.size ≤ gb292)); clear HO287; clear HO290; clear HB; have HO287 := n0_; have HO290 := n1_; have HB := n2_; have BK292 := n3_; have GW292 := n4_; have GE292 := n5_; clear n0_ n1_ n2_ n3_ n4_ n5_; clear hb hbox hg; obtain ⟨Ao7, co7, eo7⟩ := Kd.R_slice HO287.out; subst eo7; have hcz8_0 : w6.cell? ⟨gb292, 0, none⟩ = some (.slice none 0 0) := (blk_cell BK292.out 0).trans rfl; have hcz8_1 : w6.cell? ⟨gb292, 1, none⟩ = some (.slice none 0 0) := (blk_cell BK292.out 1).trans rfl; have hfz8_0 := blk_frozen BK292.out 0; have hfz8_1 := blk_frozen BK292.out 1; obtain ⟨Ao9, co9, eo9⟩ := Kd.R_slice HO290.out; subst eo9) | ((with_reducible refine gate_callee (f := 24) rfl ?_); refine goesL_ (some 18) rfl rfl Try.func24 (by kernel_rfl) rfl #[.int .i64 a0] rfl (by (try simp only [List.map_toArray, List.map_cons, List.map_nil]); first | done | rfl | (simp only [List.length_drop, List.length_take]; rfl)) ?_; (with_reducible refine (impl_BarBolts.calls k a0 t293 t296 t299 _ A3.out).mono ?_); rintro e w10 ⟨v294, v297, rfl, ho0, ho1, hb⟩; refine ⟨_, rfl, ?_⟩; have n0_ := Aside0.mk (Kd.R_elder' (by (with_reducible repeat (first | apply Kd.R_alloc | apply Kd.R_drewN | apply Kd.R_drew)); exact (Kd.R_mono (Kd.R_far (p := ⟨gb292, 1, none⟩) (Kd.R_far (p := ⟨gb292, 0, none⟩) (Kd.R_types HO287.out BK292.out (by decide)) (fun _ hk => hk.2) (.slice Ao7 t285.length co7)) (fun _ hk => hk.2) (.slice Ao9 t288.length co9)) (fun _ h_ => h_.1))) (Kd.R_base ho0) hb); have n1_ := Aside0.mk (Kd.R_elder' (by (with_reducible repeat (first | apply Kd.R_alloc | apply Kd.R_drewN | apply Kd.R_drew)); exact (Kd.R_mono (Kd.R_far (p := ⟨gb292, 1, none⟩) (Kd.R_far (p := ⟨gb292, 0, none⟩) (Kd.R_types HO290.out BK292.out (by decide)) (fun _ hk => hk.2) (.slice Ao7 t285.length co7)) (fun _ hk => hk.2) (.slice Ao9 t288.length co9)) (fun _ h_ => h_.1))) (Kd.R_base ho1) hb); have n2_ := Aside0.mk (Kd.R_lower (Kd.R_new' ho0 (Kd.R_lt (by (with_reducible repeat (first | apply Kd.R_alloc | apply Kd.R_drewN | apply Kd.R_drew)); exact (Kd.R_mono (Kd.R_far (p := ⟨gb292, 1, none⟩) (Kd.R_far (p := ⟨gb292, 0, none⟩) (Kd.R_types HO287.out BK292.out (by decide)) (fun _ hk => hk.2) (.slice Ao7 t285.length co7)) (fun _ hk => hk.2) (.slice Ao9 t288.length co9)) (fun _ h_ => h_.1))))) (below_size (by repeat (first | (with_reducible first | exact HB.out | apply below_alloc | apply pw_below_drewN | apply below_drew1 | refine below_set ?_ GE292.out) | exact HB.out)))); have n3_ := Aside0.mk (Kd.R_lower (Kd.R_new' ho1 (Kd.R_lt (by (with_reducible repeat (first | apply Kd.R_alloc | apply Kd.R_drewN | apply Kd.R_drew)); exact (Kd.R_mono (Kd.R_far (p := ⟨gb292, 1, none⟩) (Kd.R_far (p := ⟨gb292, 0, none⟩) (Kd.R_types HO290.out BK292.out (by decide)) (fun _ hk => hk.2) (.slice Ao7 t285.length co7)) (fun _ hk => hk.2) (.slice Ao9 t288.length co9)) (fun _ h_ => h_.1))))) (below_size (by repeat (first | (with_reducible first | exact HB.out | apply below_alloc | apply pw_below_drewN | apply below_drew1 | refine below_set ?_ GE292.out) | exact HB.out)))); have n4_ := Aside0.mk (blk_below (g := gb292) (o := .cells #[.slice Ao7 t285.length co7, .slice Ao9 t288.length co9] 34 (0, 0)) (by (with_reducible repeat (first | refine blk_drewN ?_ _ | refine blk_drew ?_ | refine blk_alloc ?_ _)); refine blk_put (cs := #[.slice Ao7 t285.length co7, .slice none 0 0]) ?_ 1 _ rfl; (with_reducible repeat (first | refine blk_drewN ?_ _ | refine blk_drew ?_ | refine blk_alloc ?_ _)); refine blk_put (cs := #[.slice none 0 0, .slice none 0 0]) ?_ 0 _ rfl; (with_reducible repeat (first | refine blk_drewN ?_ _ | refine blk_drew ?_ | refine blk_alloc ?_ _)); exact BK292.out) hb); have n5_ := Aside0.mk (below_step (by repeat (first | (with_reducible first | exact HB.out | apply below_alloc | apply pw_below_drewN | apply below_drew1 | refine below_set ?_ GE292.out) | exact HB.out)) hb); clear HO287; clear HO290; clear BK292; clear HB; have HO287 := n0_; have HO290 := n1_; have HO295 := n2_; have HO298 := n3_; have BK292 := n4_; have HB := n5_; clear n0_ n1_ n2_ n3_ n4_ n5_; (try clear hb); (try clear hb2); (try clear hk); (try clear hi); (try clear ho0); (try clear ho1)) | ((with_reducible refine gate_dst (N := 5) rfl ?_); refine box_event ?hg (N := 5) ?hd (cs := #[.slice none 0 0, .slice none 0 0]) (t := 34) ?hr ?_; (case hd => rfl); (case hg => rfl); (case hr => first | (go_simp; done) | (go_simp; rfl)); intro gb300 hg w11 hbox hb; have n0_ := Aside0.mk (Kd.R_below (by (with_reducible repeat (first | apply Kd.R_alloc | apply Kd.R_drewN | apply Kd.R_drew)); exact HO287.out) hb); have n1_ := Aside0.mk (Kd.R_below (by (with_reducible repeat (first | apply Kd.R_alloc | apply Kd.R_drewN | apply Kd.R_drew)); exact HO290.out) hb); have n2_ := Aside0.mk (Kd.R_below (by (with_reducible repeat (first | apply Kd.R_alloc | apply Kd.R_drewN | apply Kd.R_drew)); exact HO295.out) hb); have n3_ := Aside0.mk (Kd.R_below (by (with_reducible repeat (first | apply Kd.R_alloc | apply Kd.R_drewN | apply Kd.R_drew)); exact HO298.out) hb); have n4_ := Aside0.mk (blk_below (g := gb292) (o := .cells #[.slice Ao7 t285.length co7, .slice Ao9 t288.length co9] 34 (0, 0)) (by (with_reducible repeat (first | refine blk_drewN ?_ _ | refine blk_drew ?_ | refine blk_alloc ?_ _)); exact BK292.out) hb); have n5_ := Aside0.mk (below_step (by repeat (first | (with_reducible first | exact HB.out | apply below_alloc | apply pw_below_drewN | apply below_drew1 | refine below_set ?_ GE292.out) | exact HB.out)) hb); have n6_ := Aside0.mk (hbox); have n7_ := Aside0.mk ((by rw [hg]; exact (below_size (by repeat (first | (with_reducible first | exact HB.out | apply below_alloc | apply pw_below_drewN | apply below_drew1 | refine below_set ?_ GE292.out) | exact HB.out))) : w.heap.size ≤ gb300)); have n8_ := Aside0.mk ((by rw [hg]; exact (below_size (by repeat (first | (with_reducible first | exact HB.out | apply below_alloc | apply pw_below_drewN | apply below_drew1 | refine below_set ?_ GE292.out) | exact HB.out))) : w.heap.size ≤ gb300)); have n9_ := Aside0.mk ((by rw [hg]; exact Nat.ne_of_lt (blk_lt (g := gb292) (o := .cells #[.slice Ao7 t285.length co7, .slice Ao9 t288.length co9] 34 (0, 0)) (by (with_reducible repeat (first | refine blk_drewN ?_ _ | refine blk_drew ?_ | refine blk_alloc ?_ _)); exact BK292.out)) : gb292 ≠ gb300)); have n10_ := Aside0.mk ((by rw [hg]; exact Nat.ne_of_gt (blk_lt (g := gb292) (o := .cells #[.slice Ao7 t285.length co7, .slice Ao9 t288.length co9] 34 (0, 0)) (by (with_reducible repeat (first | refine blk_drewN ?_ _ | refine blk_drew ?_ | refine blk_alloc ?_ _)); exact BK292.out)) : gb300 ≠ gb292)); clear HO287; clear HO290; clear HO295; clear HO298; clear BK292; clear HB; have HO287 := n0_; have HO290 := n1_; have HO295 := n2_; have HO298 := n3_; have BK292 := n4_; have HB := n5_; have BK300 := n6_; have GW300 := n7_; have GE300 := n8_; have NB292_300 := n9_; have NB300_292 := n10_; clear n0_ n1_ n2_ n3_ n4_ n5_ n6_ n7_ n8_ n9_ n10_; clear hb hbox hg; obtain ⟨Ao12, co12, eo12⟩ := Kd.R_slice HO295.out; subst eo12; have hnb13 := NB300_292.out; have hnc13 := NB292_300.out; have hcz14_0 : w11.cell? ⟨gb300, 0, none⟩ = some (.slice none 0 0) := (blk_cell BK300.out 0).trans rfl; have hcz14_1 : w11.cell? ⟨gb300, 1, none⟩ = some (.slice none 0 0) := (blk_cell BK300.out 1).trans rfl; have hfz14_0 := blk_frozen BK300.out 0; have hfz14_1 := blk_frozen BK300.out 1; obtain ⟨Ao15, co15, eo15⟩ := Kd.R_slice HO298.out; subst eo15))
  (try simp only [Act.put, List.setIfInBounds_toArray, List.set_cons_zero, List.set_cons_succ])
  go_cut [29] (fun v29 wc => ∃ (kq : Nat) (x29_3 : Bool), v29 = .bool x29_3 ∧ Aside0 (laws_FnExactBarBolts.j0 kq a0 t291 x29_3 t285 t288 t293 t296 = some r) ∧ Aside0 (kq ≤ k) ∧ Aside0 (Kd.R (Kd.int .i64) 3 wc w.heap.size (fun k_ => some k_ ≠ ((.slice Ao12 t293.length co12) : Value).ownBlock) (.slice Ao7 t285.length co7) t285) ∧ Aside0 (Kd.R k67 67 wc w.heap.size (fun k_ => some k_ ≠ ((.slice Ao15 t296.length co15) : Value).ownBlock) (.slice Ao9 t288.length co9) t288) ∧ Aside0 (Kd.R (Kd.int .i64) 3 wc w.heap.size (fun k_ => some k_ ≠ ((.slice Ao7 t285.length co7) : Value).ownBlock) (.slice Ao12 t293.length co12) t293) ∧ Aside0 (Kd.R k67 67 wc w.heap.size (fun k_ => some k_ ≠ ((.slice Ao9 t288.length co9) : Value).ownBlock) (.slice Ao15 t296.length co15) t296) ∧ Aside0 (wc.heap[gb292]? = some (.cells #[(.slice Ao7 t285.length co7), (.slice Ao9 t288.length co9)] 34 (0, 0))) ∧ Aside0 (wc.heap[gb300]? = some (.cells #[(.slice Ao12 t293.length co12), (.slice Ao15 t296.length co15)] 34 (0, 0))) ∧ Aside0 (Below w.heap.size w wc))
  case first =>
    have H := HC4.out
    clear HC4
    replace H := Option.bind_eq_some_iff.mp H
    obtain ⟨t301, A160, H⟩ := H
    replace H : (if t301 = true then (laws_FnExactBarBolts.j0 k a0 t291 (t299 != t291) t285 t288 t293 t296) else (laws_FnExactBarBolts.j0 k a0 t291 true t285 t288 t293 t296)) = some r := H
    have A16 := Aside0.mk A160
    clear A160
    by_cases c17 : t301 = true
    · subst c17
      have H1 : (laws_FnExactBarBolts.j0 k a0 t291 (t299 != t291) t285 t288 t293 t296) = some r := by rw [if_pos rfl] at H; exact H
      clear H
      have H := H1
      clear H1
      have H' := Aside0.mk H
      clear H
      have hnb18 := NB300_292.out
      have hnc18 := NB292_300.out
      have hcz19_0 : w11.cell? ⟨gb300, 0, none⟩ = some (.slice none 0 0) := (blk_cell BK300.out 0).trans rfl
      have hcz19_1 : w11.cell? ⟨gb300, 1, none⟩ = some (.slice none 0 0) := (blk_cell BK300.out 1).trans rfl
      have hfz19_0 := blk_frozen BK300.out 0
      have hfz19_1 := blk_frozen BK300.out 1
      have hcz20_0 : w11.cell? ⟨gb292, 0, none⟩ = some (.slice Ao7 t285.length co7) := (blk_cell BK292.out 0).trans rfl
      have hcz20_1 : w11.cell? ⟨gb292, 1, none⟩ = some (.slice Ao9 t288.length co9) := (blk_cell BK292.out 1).trans rfl
      have hfz20_0 := blk_frozen BK292.out 0
      have hfz20_1 := blk_frozen BK292.out 1
      go_wp2_with (first | ((with_reducible refine gate_callee (f := 25) rfl ?_); refine goesL_ (some 23) rfl rfl Try.func25 (by kernel_rfl) rfl #[.agg #[.slice Ao12 t293.length co12, .slice Ao15 t296.length co15], .agg #[.slice Ao7 t285.length co7, .slice Ao9 t288.length co9]] rfl (by (try simp only [List.map_toArray, List.map_cons, List.map_nil]); first | done | rfl | (simp only [List.length_drop, List.length_take]; rfl)) ?_; (with_reducible refine (laws_eqBolts.calls k _ _ t293 _ _ t296 _ _ t285 _ _ t288 true _ ?side1 ?side2 ?side3 ?side4 ?side5 ?side6 ?side7 ?side8 A16.out).mono ?_); (case side1 => refine (Kd.R_reads' (e := 3) (base := w.heap.size) (ok := fun k_ => (True ∧ some k_ ≠ (.slice Ao7 t285.length co7 : Value).ownBlock)) (n := t293.length) (c := co12) ?_).2.2; exact (by (with_reducible repeat (first | apply Kd.R_alloc | apply Kd.R_drewN | apply Kd.R_drew)); exact (Kd.R_mono (Kd.R_far (p := ⟨gb300, 1, none⟩) (Kd.R_far (p := ⟨gb300, 0, none⟩) (Kd.R_types HO295.out BK300.out (by decide)) (fun _ hk => hk.2) (.slice Ao12 t293.length co12)) (fun _ hk => hk.2) (.slice Ao15 t296.length co15)) (fun _ h_ => h_.1)))); (case side2 => exact (Kd.R_reads' HO295.out).2.1); (case side3 => refine (Kd.R_reads' (e := 67) (base := w.heap.size) (ok := fun k_ => (True ∧ some k_ ≠ (.slice Ao9 t288.length co9 : Value).ownBlock)) (n := t296.length) (c := co15) ?_).2.2; exact (by (with_reducible repeat (first | apply Kd.R_alloc | apply Kd.R_drewN | apply Kd.R_drew)); exact (Kd.R_mono (Kd.R_far (p := ⟨gb300, 1, none⟩) (Kd.R_far (p := ⟨gb300, 0, none⟩) (Kd.R_types HO298.out BK300.out (by decide)) (fun _ hk => hk.2) (.slice Ao12 t293.length co12)) (fun _ hk => hk.2) (.slice Ao15 t296.length co15)) (fun _ h_ => h_.1)))); (case side4 => exact (Kd.R_reads' HO298.out).2.1); (case side5 => refine (Kd.R_reads' (e := 3) (base := w.heap.size) (ok := fun k_ => (True ∧ some k_ ≠ (.slice Ao12 t293.length co12 : Value).ownBlock)) (n := t285.length) (c := co7) ?_).2.2; exact (by (with_reducible repeat (first | apply Kd.R_alloc | apply Kd.R_drewN | apply Kd.R_drew)); exact (Kd.R_mono (Kd.R_far (p := ⟨gb300, 1, none⟩) (Kd.R_far (p := ⟨gb300, 0, none⟩) (Kd.R_types HO287.out BK300.out (by decide)) (fun _ hk => hk.2) (.slice Ao12 t293.length co12)) (fun _ hk => hk.2) (.slice Ao15 t296.length co15)) (fun _ h_ => h_.1)))); (case side6 => exact (Kd.R_reads' HO287.out).2.1); (case side7 => refine (Kd.R_reads' (e := 67) (base := w.heap.size) (ok := fun k_ => (True ∧ some k_ ≠ (.slice Ao15 t296.length co15 : Value).ownBlock)) (n := t288.length) (c := co9) ?_).2.2; exact (by (with_reducible repeat (first | apply Kd.R_alloc | apply Kd.R_drewN | apply Kd.R_drew)); exact (Kd.R_mono (Kd.R_far (p := ⟨gb300, 1, none⟩) (Kd.R_far (p := ⟨gb300, 0, none⟩) (Kd.R_types HO290.out BK300.out (by decide)) (fun _ hk => hk.2) (.slice Ao12 t293.length co12)) (fun _ hk => hk.2) (.slice Ao15 t296.length co15)) (fun _ h_ => h_.1)))); (case side8 => exact (Kd.R_reads' HO290.out).2.1); rintro e w21 ⟨rfl, hb⟩; refine ⟨_, rfl, ?_⟩; have n0_ := Aside0.mk (Kd.R_below (by (with_reducible repeat (first | apply Kd.R_alloc | apply Kd.R_drewN | apply Kd.R_drew)); exact (Kd.R_mono (Kd.R_far (p := ⟨gb300, 1, none⟩) (Kd.R_far (p := ⟨gb300, 0, none⟩) (Kd.R_types HO287.out BK300.out (by decide)) (fun _ hk => hk.2) (.slice Ao12 t293.length co12)) (fun _ hk => hk.2) (.slice Ao15 t296.length co15)) (fun _ h_ => h_.1))) hb); have n1_ := Aside0.mk (Kd.R_below (by (with_reducible repeat (first | apply Kd.R_alloc | apply Kd.R_drewN | apply Kd.R_drew)); exact (Kd.R_mono (Kd.R_far (p := ⟨gb300, 1, none⟩) (Kd.R_far (p := ⟨gb300, 0, none⟩) (Kd.R_types HO290.out BK300.out (by decide)) (fun _ hk => hk.2) (.slice Ao12 t293.length co12)) (fun _ hk => hk.2) (.slice Ao15 t296.length co15)) (fun _ h_ => h_.1))) hb); have n2_ := Aside0.mk (Kd.R_below (by (with_reducible repeat (first | apply Kd.R_alloc | apply Kd.R_drewN | apply Kd.R_drew)); exact (Kd.R_mono (Kd.R_far (p := ⟨gb300, 1, none⟩) (Kd.R_far (p := ⟨gb300, 0, none⟩) (Kd.R_types HO295.out BK300.out (by decide)) (fun _ hk => hk.2) (.slice Ao12 t293.length co12)) (fun _ hk => hk.2) (.slice Ao15 t296.length co15)) (fun _ h_ => h_.1))) hb); have n3_ := Aside0.mk (Kd.R_below (by (with_reducible repeat (first | apply Kd.R_alloc | apply Kd.R_drewN | apply Kd.R_drew)); exact (Kd.R_mono (Kd.R_far (p := ⟨gb300, 1, none⟩) (Kd.R_far (p := ⟨gb300, 0, none⟩) (Kd.R_types HO298.out BK300.out (by decide)) (fun _ hk => hk.2) (.slice Ao12 t293.length co12)) (fun _ hk => hk.2) (.slice Ao15 t296.length co15)) (fun _ h_ => h_.1))) hb); have n4_ := Aside0.mk (blk_below (g := gb292) (o := .cells #[.slice Ao7 t285.length co7, .slice Ao9 t288.length co9] 34 (0, 0)) (by (with_reducible repeat (first | refine blk_drewN ?_ _ | refine blk_drew ?_ | refine blk_alloc ?_ _)); refine blk_far ?_ NB292_300.out _; (with_reducible repeat (first | refine blk_drewN ?_ _ | refine blk_drew ?_ | refine blk_alloc ?_ _)); refine blk_far ?_ NB292_300.out _; (with_reducible repeat (first | refine blk_drewN ?_ _ | refine blk_drew ?_ | refine blk_alloc ?_ _)); exact BK292.out) hb); have n5_ := Aside0.mk (blk_below (g := gb300) (o := .cells #[.slice Ao12 t293.length co12, .slice Ao15 t296.length co15] 34 (0, 0)) (by (with_reducible repeat (first | refine blk_drewN ?_ _ | refine blk_drew ?_ | refine blk_alloc ?_ _)); refine blk_put (cs := #[.slice Ao12 t293.length co12, .slice none 0 0]) ?_ 1 _ rfl; (with_reducible repeat (first | refine blk_drewN ?_ _ | refine blk_drew ?_ | refine blk_alloc ?_ _)); refine blk_put (cs := #[.slice none 0 0, .slice none 0 0]) ?_ 0 _ rfl; (with_reducible repeat (first | refine blk_drewN ?_ _ | refine blk_drew ?_ | refine blk_alloc ?_ _)); exact BK300.out) hb); have n6_ := Aside0.mk (below_step (by repeat (first | (with_reducible first | exact HB.out | apply below_alloc | apply pw_below_drewN | apply below_drew1 | refine below_set ?_ GE292.out | refine below_set ?_ GE300.out) | exact HB.out)) hb); clear HO287; clear HO290; clear HO295; clear HO298; clear BK292; clear BK300; clear HB; have HO287 := n0_; have HO290 := n1_; have HO295 := n2_; have HO298 := n3_; have BK292 := n4_; have BK300 := n5_; have HB := n6_; clear n0_ n1_ n2_ n3_ n4_ n5_ n6_; (try clear hb); (try clear hb2); (try clear hk); (try clear hi)))
      go_meet
      case rel => exact ⟨_, ((t299 != t291)), (by first | rfl | (simp; done) | (simp [*]; done)), H', ⟨by first | omega | exact Nat.le_refl _⟩, ⟨by (with_reducible repeat (first | apply Kd.R_alloc | apply Kd.R_drewN | apply Kd.R_drew)); exact Kd.R_mono HO287.out (fun _ hk => hk.2)⟩, ⟨by (with_reducible repeat (first | apply Kd.R_alloc | apply Kd.R_drewN | apply Kd.R_drew)); exact Kd.R_mono HO290.out (fun _ hk => hk.2)⟩, ⟨by (with_reducible repeat (first | apply Kd.R_alloc | apply Kd.R_drewN | apply Kd.R_drew)); exact Kd.R_mono HO295.out (fun _ hk => hk.2)⟩, ⟨by (with_reducible repeat (first | apply Kd.R_alloc | apply Kd.R_drewN | apply Kd.R_drew)); exact Kd.R_mono HO298.out (fun _ hk => hk.2)⟩, ⟨by (with_reducible repeat (first | refine blk_drewN ?_ _ | refine blk_drew ?_ | refine blk_alloc ?_ _)); exact BK292.out⟩, ⟨by (with_reducible repeat (first | refine blk_drewN ?_ _ | refine blk_drew ?_ | refine blk_alloc ?_ _)); exact BK300.out⟩, ⟨by repeat (first | (with_reducible first | exact HB.out | apply below_alloc | apply pw_below_drewN | apply below_drew1 | refine below_set ?_ GE292.out | refine below_set ?_ GE300.out) | exact HB.out)⟩⟩
    · replace c17 := Bool.eq_false_iff.mpr c17
      subst c17
      have H1 : (laws_FnExactBarBolts.j0 k a0 t291 true t285 t288 t293 t296) = some r := by rw [if_neg (show ¬ (false = true) by decide)] at H; exact H
      clear H
      have H := H1
      clear H1
      have H' := Aside0.mk H
      clear H
      have hnb22 := NB300_292.out
      have hnc22 := NB292_300.out
      have hcz23_0 : w11.cell? ⟨gb300, 0, none⟩ = some (.slice none 0 0) := (blk_cell BK300.out 0).trans rfl
      have hcz23_1 : w11.cell? ⟨gb300, 1, none⟩ = some (.slice none 0 0) := (blk_cell BK300.out 1).trans rfl
      have hfz23_0 := blk_frozen BK300.out 0
      have hfz23_1 := blk_frozen BK300.out 1
      have hcz24_0 : w11.cell? ⟨gb292, 0, none⟩ = some (.slice Ao7 t285.length co7) := (blk_cell BK292.out 0).trans rfl
      have hcz24_1 : w11.cell? ⟨gb292, 1, none⟩ = some (.slice Ao9 t288.length co9) := (blk_cell BK292.out 1).trans rfl
      have hfz24_0 := blk_frozen BK292.out 0
      have hfz24_1 := blk_frozen BK292.out 1
      go_wp2_with (first | ((with_reducible refine gate_callee (f := 25) rfl ?_); refine goesL_ (some 23) rfl rfl Try.func25 (by kernel_rfl) rfl #[.agg #[.slice Ao12 t293.length co12, .slice Ao15 t296.length co15], .agg #[.slice Ao7 t285.length co7, .slice Ao9 t288.length co9]] rfl (by (try simp only [List.map_toArray, List.map_cons, List.map_nil]); first | done | rfl | (simp only [List.length_drop, List.length_take]; rfl)) ?_; (with_reducible refine (laws_eqBolts.calls k _ _ t293 _ _ t296 _ _ t285 _ _ t288 false _ ?side1 ?side2 ?side3 ?side4 ?side5 ?side6 ?side7 ?side8 A16.out).mono ?_); (case side1 => refine (Kd.R_reads' (e := 3) (base := w.heap.size) (ok := fun k_ => (True ∧ some k_ ≠ (.slice Ao7 t285.length co7 : Value).ownBlock)) (n := t293.length) (c := co12) ?_).2.2; exact (by (with_reducible repeat (first | apply Kd.R_alloc | apply Kd.R_drewN | apply Kd.R_drew)); exact (Kd.R_mono (Kd.R_far (p := ⟨gb300, 1, none⟩) (Kd.R_far (p := ⟨gb300, 0, none⟩) (Kd.R_types HO295.out BK300.out (by decide)) (fun _ hk => hk.2) (.slice Ao12 t293.length co12)) (fun _ hk => hk.2) (.slice Ao15 t296.length co15)) (fun _ h_ => h_.1)))); (case side2 => exact (Kd.R_reads' HO295.out).2.1); (case side3 => refine (Kd.R_reads' (e := 67) (base := w.heap.size) (ok := fun k_ => (True ∧ some k_ ≠ (.slice Ao9 t288.length co9 : Value).ownBlock)) (n := t296.length) (c := co15) ?_).2.2; exact (by (with_reducible repeat (first | apply Kd.R_alloc | apply Kd.R_drewN | apply Kd.R_drew)); exact (Kd.R_mono (Kd.R_far (p := ⟨gb300, 1, none⟩) (Kd.R_far (p := ⟨gb300, 0, none⟩) (Kd.R_types HO298.out BK300.out (by decide)) (fun _ hk => hk.2) (.slice Ao12 t293.length co12)) (fun _ hk => hk.2) (.slice Ao15 t296.length co15)) (fun _ h_ => h_.1)))); (case side4 => exact (Kd.R_reads' HO298.out).2.1); (case side5 => refine (Kd.R_reads' (e := 3) (base := w.heap.size) (ok := fun k_ => (True ∧ some k_ ≠ (.slice Ao12 t293.length co12 : Value).ownBlock)) (n := t285.length) (c := co7) ?_).2.2; exact (by (with_reducible repeat (first | apply Kd.R_alloc | apply Kd.R_drewN | apply Kd.R_drew)); exact (Kd.R_mono (Kd.R_far (p := ⟨gb300, 1, none⟩) (Kd.R_far (p := ⟨gb300, 0, none⟩) (Kd.R_types HO287.out BK300.out (by decide)) (fun _ hk => hk.2) (.slice Ao12 t293.length co12)) (fun _ hk => hk.2) (.slice Ao15 t296.length co15)) (fun _ h_ => h_.1)))); (case side6 => exact (Kd.R_reads' HO287.out).2.1); (case side7 => refine (Kd.R_reads' (e := 67) (base := w.heap.size) (ok := fun k_ => (True ∧ some k_ ≠ (.slice Ao15 t296.length co15 : Value).ownBlock)) (n := t288.length) (c := co9) ?_).2.2; exact (by (with_reducible repeat (first | apply Kd.R_alloc | apply Kd.R_drewN | apply Kd.R_drew)); exact (Kd.R_mono (Kd.R_far (p := ⟨gb300, 1, none⟩) (Kd.R_far (p := ⟨gb300, 0, none⟩) (Kd.R_types HO290.out BK300.out (by decide)) (fun _ hk => hk.2) (.slice Ao12 t293.length co12)) (fun _ hk => hk.2) (.slice Ao15 t296.length co15)) (fun _ h_ => h_.1)))); (case side8 => exact (Kd.R_reads' HO290.out).2.1); rintro e w25 ⟨rfl, hb⟩; refine ⟨_, rfl, ?_⟩; have n0_ := Aside0.mk (Kd.R_below (by (with_reducible repeat (first | apply Kd.R_alloc | apply Kd.R_drewN | apply Kd.R_drew)); exact (Kd.R_mono (Kd.R_far (p := ⟨gb300, 1, none⟩) (Kd.R_far (p := ⟨gb300, 0, none⟩) (Kd.R_types HO287.out BK300.out (by decide)) (fun _ hk => hk.2) (.slice Ao12 t293.length co12)) (fun _ hk => hk.2) (.slice Ao15 t296.length co15)) (fun _ h_ => h_.1))) hb); have n1_ := Aside0.mk (Kd.R_below (by (with_reducible repeat (first | apply Kd.R_alloc | apply Kd.R_drewN | apply Kd.R_drew)); exact (Kd.R_mono (Kd.R_far (p := ⟨gb300, 1, none⟩) (Kd.R_far (p := ⟨gb300, 0, none⟩) (Kd.R_types HO290.out BK300.out (by decide)) (fun _ hk => hk.2) (.slice Ao12 t293.length co12)) (fun _ hk => hk.2) (.slice Ao15 t296.length co15)) (fun _ h_ => h_.1))) hb); have n2_ := Aside0.mk (Kd.R_below (by (with_reducible repeat (first | apply Kd.R_alloc | apply Kd.R_drewN | apply Kd.R_drew)); exact (Kd.R_mono (Kd.R_far (p := ⟨gb300, 1, none⟩) (Kd.R_far (p := ⟨gb300, 0, none⟩) (Kd.R_types HO295.out BK300.out (by decide)) (fun _ hk => hk.2) (.slice Ao12 t293.length co12)) (fun _ hk => hk.2) (.slice Ao15 t296.length co15)) (fun _ h_ => h_.1))) hb); have n3_ := Aside0.mk (Kd.R_below (by (with_reducible repeat (first | apply Kd.R_alloc | apply Kd.R_drewN | apply Kd.R_drew)); exact (Kd.R_mono (Kd.R_far (p := ⟨gb300, 1, none⟩) (Kd.R_far (p := ⟨gb300, 0, none⟩) (Kd.R_types HO298.out BK300.out (by decide)) (fun _ hk => hk.2) (.slice Ao12 t293.length co12)) (fun _ hk => hk.2) (.slice Ao15 t296.length co15)) (fun _ h_ => h_.1))) hb); have n4_ := Aside0.mk (blk_below (g := gb292) (o := .cells #[.slice Ao7 t285.length co7, .slice Ao9 t288.length co9] 34 (0, 0)) (by (with_reducible repeat (first | refine blk_drewN ?_ _ | refine blk_drew ?_ | refine blk_alloc ?_ _)); refine blk_far ?_ NB292_300.out _; (with_reducible repeat (first | refine blk_drewN ?_ _ | refine blk_drew ?_ | refine blk_alloc ?_ _)); refine blk_far ?_ NB292_300.out _; (with_reducible repeat (first | refine blk_drewN ?_ _ | refine blk_drew ?_ | refine blk_alloc ?_ _)); exact BK292.out) hb); have n5_ := Aside0.mk (blk_below (g := gb300) (o := .cells #[.slice Ao12 t293.length co12, .slice Ao15 t296.length co15] 34 (0, 0)) (by (with_reducible repeat (first | refine blk_drewN ?_ _ | refine blk_drew ?_ | refine blk_alloc ?_ _)); refine blk_put (cs := #[.slice Ao12 t293.length co12, .slice none 0 0]) ?_ 1 _ rfl; (with_reducible repeat (first | refine blk_drewN ?_ _ | refine blk_drew ?_ | refine blk_alloc ?_ _)); refine blk_put (cs := #[.slice none 0 0, .slice none 0 0]) ?_ 0 _ rfl; (with_reducible repeat (first | refine blk_drewN ?_ _ | refine blk_drew ?_ | refine blk_alloc ?_ _)); exact BK300.out) hb); have n6_ := Aside0.mk (below_step (by repeat (first | (with_reducible first | exact HB.out | apply below_alloc | apply pw_below_drewN | apply below_drew1 | refine below_set ?_ GE292.out | refine below_set ?_ GE300.out) | exact HB.out)) hb); clear HO287; clear HO290; clear HO295; clear HO298; clear BK292; clear BK300; clear HB; have HO287 := n0_; have HO290 := n1_; have HO295 := n2_; have HO298 := n3_; have BK292 := n4_; have BK300 := n5_; have HB := n6_; clear n0_ n1_ n2_ n3_ n4_ n5_ n6_; (try clear hb); (try clear hb2); (try clear hk); (try clear hi)))
      go_meet
      case rel => exact ⟨_, (true), (by first | rfl | (simp; done) | (simp [*]; done)), H', ⟨by first | omega | exact Nat.le_refl _⟩, ⟨by (with_reducible repeat (first | apply Kd.R_alloc | apply Kd.R_drewN | apply Kd.R_drew)); exact Kd.R_mono HO287.out (fun _ hk => hk.2)⟩, ⟨by (with_reducible repeat (first | apply Kd.R_alloc | apply Kd.R_drewN | apply Kd.R_drew)); exact Kd.R_mono HO290.out (fun _ hk => hk.2)⟩, ⟨by (with_reducible repeat (first | apply Kd.R_alloc | apply Kd.R_drewN | apply Kd.R_drew)); exact Kd.R_mono HO295.out (fun _ hk => hk.2)⟩, ⟨by (with_reducible repeat (first | apply Kd.R_alloc | apply Kd.R_drewN | apply Kd.R_drew)); exact Kd.R_mono HO298.out (fun _ hk => hk.2)⟩, ⟨by (with_reducible repeat (first | refine blk_drewN ?_ _ | refine blk_drew ?_ | refine blk_alloc ?_ _)); exact BK292.out⟩, ⟨by (with_reducible repeat (first | refine blk_drewN ?_ _ | refine blk_drew ?_ | refine blk_alloc ?_ _)); exact BK300.out⟩, ⟨by repeat (first | (with_reducible first | exact HB.out | apply below_alloc | apply pw_below_drewN | apply below_drew1 | refine below_set ?_ GE292.out | refine below_set ?_ GE300.out) | exact HB.out)⟩⟩
  case rest =>
    clear HC4
    try clear c1
    try clear c2
    try clear p2
    try clear c5
    try clear c13
    try clear c17
    try clear c18
    try clear c22
    try clear c23
    try clear c24
    try clear c25
    try clear hcz14_0
    try clear hcz14_1
    try clear hcz19_0
    try clear hcz19_1
    try clear hcz20_0
    try clear hcz20_1
    try clear hcz23_0
    try clear hcz23_1
    try clear hcz24_0
    try clear hcz24_1
    try clear hcz8_0
    try clear hcz8_1
    try clear hfz14_0
    try clear hfz14_1
    try clear hfz19_0
    try clear hfz19_1
    try clear hfz20_0
    try clear hfz20_1
    try clear hfz23_0
    try clear hfz23_1
    try clear hfz24_0
    try clear hfz24_1
    try clear hfz8_0
    try clear hfz8_1
    obtain ⟨kq, x29_3, rfl, HA, HJ3, HO_293000, HO_293001, HO_301000, HO_301001, BK292, BK300, HB⟩ := hcut
    cases kq with
    | zero => exact absurd HA.out (by simp [laws_FnExactBarBolts.j0])
    | succ kj3 =>
      have H := HA.out
      clear HA
      simp only [laws_FnExactBarBolts.j0] at H
      by_cases c26 : x29_3 = true
      · subst c26
        have H1 : (some false) = some r := by rw [if_pos rfl] at H; exact H
        clear H
        have H := H1
        clear H1
        obtain rfl := Option.some.inj H
        go_wp2
        go_ret
        exact ⟨by first | rfl | (simp [errW_none, errW_some] <;> rfl) | (simp [*, errW_none, errW_some] <;> rfl), by repeat (first | (with_reducible first | exact HB.out | apply below_alloc | apply pw_below_drewN | apply below_drew1 | refine below_set ?_ GE292.out | refine below_set ?_ GE300.out) | exact HB.out)⟩
      · replace c26 := Bool.eq_false_iff.mpr c26
        subst c26
        have H1 : ((laws_markBolts.f kj3 t293 t296 1).bind fun bt302 => ((laws_heldBolts.f kj3 bt302.2.1 bt302.2.2 1).bind fun t305 => (if t305 < 0 then (some false) else (if t305 = bt302.1 then ((impl_BarBolts.f kj3 a0).bind fun bt306 => ((laws_eqBolts.f kj3 bt306.1 bt306.2.1 t285 t288).bind fun t314 => (if t314 = true then (laws_FnExactBarBolts.j1 kj3 bt302.1 (bt306.2.2 != t291) bt302.2.1 bt302.2.2) else (laws_FnExactBarBolts.j1 kj3 bt302.1 true bt302.2.1 bt302.2.2)))) else (some false))))) = some r := by rw [if_neg (show ¬ (false = true) by decide)] at H; exact H
        clear H
        have H := H1
        clear H1
        replace H := Option.bind_eq_some_iff.mp H
        obtain ⟨⟨t302, t303, t304⟩, A270, H⟩ := H
        replace H : ((laws_heldBolts.f kj3 t303 t304 1).bind fun t305 => (if t305 < 0 then (some false) else (if t305 = t302 then ((impl_BarBolts.f kj3 a0).bind fun bt306 => ((laws_eqBolts.f kj3 bt306.1 bt306.2.1 t285 t288).bind fun t314 => (if t314 = true then (laws_FnExactBarBolts.j1 kj3 t302 (bt306.2.2 != t291) t303 t304) else (laws_FnExactBarBolts.j1 kj3 t302 true t303 t304)))) else (some false)))) = some r := H
        have A27 := Aside0.mk A270
        clear A270
        replace H := Option.bind_eq_some_iff.mp H
        obtain ⟨t305, A280, H⟩ := H
        replace H : (if t305 < 0 then (some false) else (if t305 = t302 then ((impl_BarBolts.f kj3 a0).bind fun bt306 => ((laws_eqBolts.f kj3 bt306.1 bt306.2.1 t285 t288).bind fun t314 => (if t314 = true then (laws_FnExactBarBolts.j1 kj3 t302 (bt306.2.2 != t291) t303 t304) else (laws_FnExactBarBolts.j1 kj3 t302 true t303 t304)))) else (some false))) = some r := H
        have A28 := Aside0.mk A280
        clear A280
        by_cases c29 : t305 < 0
        · rw [if_pos c29] at H
          have c29b0 : decide (t305 < 0) = true := decide_eq_true c29
          clear c29
          obtain rfl := Option.some.inj H
          have hnb30 := NB300_292.out
          have hnc30 := NB292_300.out
          have hcz31_0 : wc.cell? ⟨gb300, 0, none⟩ = some (.slice Ao12 t293.length co12) := (blk_cell BK300.out 0).trans rfl
          have hcz31_1 : wc.cell? ⟨gb300, 1, none⟩ = some (.slice Ao15 t296.length co15) := (blk_cell BK300.out 1).trans rfl
          have hfz31_0 := blk_frozen BK300.out 0
          have hfz31_1 := blk_frozen BK300.out 1
          go_wp2_with (first | ((with_reducible refine gate_callee (f := 26) rfl ?_); refine goesL_ (some 32) rfl rfl Try.func26 (by kernel_rfl) rfl #[.agg #[.slice Ao12 t293.length co12, .slice Ao15 t296.length co15], .int .i64 1] rfl (by (try simp only [List.map_toArray, List.map_cons, List.map_nil]); first | done | rfl | (simp only [List.length_drop, List.length_take]; rfl)) ?_; (with_reducible refine (laws_markBolts.calls kj3 (fun k_ => some k_ = (.slice Ao12 t293.length co12 : Value).ownBlock) (.slice Ao12 t293.length co12) t293 (fun k_ => some k_ = (.slice Ao15 t296.length co15 : Value).ownBlock) (.slice Ao15 t296.length co15) t296 1 t302 t303 t304 w _ ?side1 ?side2 ?side3 A27.out).mono ?_); (case side1 => repeat (first | (with_reducible first | exact HB.out | apply below_alloc | apply pw_below_drewN | apply below_drew1 | refine below_set ?_ GE292.out | refine below_set ?_ GE300.out) | exact HB.out)); (case side2 => exact Kd.R_tight rfl HO_301000.out); (case side3 => exact Kd.R_tight rfl HO_301001.out); rintro e w32 ⟨rfl, hy0, hy1, hb, hkp⟩; refine ⟨_, rfl, ?_⟩; have n0_ := Aside0.mk (Kd.R_mono (ok' := fun k_ => some k_ ≠ (.slice Ao12 t293.length co12 : Value).ownBlock) (Kd.R_keptB ((Kd.R_apart' HO_293000.out (Kd.R_typed HO_301001.out) (by decide))) hkp (fun k_ hk_ hs_ => Or.elim hs_ (fun e_ => (hk_.1) e_) (fun e_ => (hk_.2) e_))) (fun k_ hk_ => hk_.1.1)); have n1_ := Aside0.mk (Kd.R_mono (ok' := fun k_ => some k_ ≠ (.slice Ao15 t296.length co15 : Value).ownBlock) (Kd.R_keptB ((Kd.R_apart' HO_293001.out (Kd.R_typed HO_301000.out) (by decide))) hkp (fun k_ hk_ hs_ => Or.elim hs_ (fun e_ => (hk_.2) e_) (fun e_ => (hk_.1) e_))) (fun k_ hk_ => hk_.1.1)); have n2_ := Aside0.mk (Kd.R_reok rfl hy0 (fun k_ e_ => HO_301000.out.1 k_ e_)); have n3_ := Aside0.mk (Kd.R_reok rfl hy1 (fun k_ e_ => HO_301001.out.1 k_ e_)); have n4_ := Aside0.mk (blk_kept (by (with_reducible repeat (first | refine blk_drewN ?_ _ | refine blk_drew ?_ | refine blk_alloc ?_ _)); exact BK292.out) hkp (fun hs_ => Or.elim hs_ (fun e_ => (fun e_ => (Kd.R_ne HO_301000.out BK292.out (by decide)) e_) e_) (fun e_ => (fun e_ => (Kd.R_ne HO_301001.out BK292.out (by decide)) e_) e_))); have n5_ := Aside0.mk (blk_kept (by (with_reducible repeat (first | refine blk_drewN ?_ _ | refine blk_drew ?_ | refine blk_alloc ?_ _)); exact BK300.out) hkp (fun hs_ => Or.elim hs_ (fun e_ => (fun e_ => (Kd.R_ne HO_301000.out BK300.out (by decide)) e_) e_) (fun e_ => (fun e_ => (Kd.R_ne HO_301001.out BK300.out (by decide)) e_) e_))); have n6_ := Aside0.mk (hb); clear HO_293000; clear HO_293001; clear HO_301000; clear HO_301001; clear BK292; clear BK300; clear HB; have HO_293000 := n0_; have HO_293001 := n1_; have HO_301000 := n2_; have HO_301001 := n3_; have BK292 := n4_; have BK300 := n5_; have HB := n6_; clear n0_ n1_ n2_ n3_ n4_ n5_ n6_; (try clear hb); (try clear hkp); (try clear hy0); (try clear hy1); have hcz33_0 : w32.cell? ⟨gb300, 0, none⟩ = some (.slice Ao12 t293.length co12) := (blk_cell BK300.out 0).trans rfl; have hcz33_1 : w32.cell? ⟨gb300, 1, none⟩ = some (.slice Ao15 t296.length co15) := (blk_cell BK300.out 1).trans rfl; have hfz33_0 := blk_frozen BK300.out 0; have hfz33_1 := blk_frozen BK300.out 1) | ((with_reducible refine gate_callee (f := 27) rfl ?_); refine goesL_ (some 35) rfl rfl Try.func27 (by kernel_rfl) rfl #[.agg #[.slice Ao12 t303.length co12, .slice Ao15 t304.length co15], .int .i64 1] rfl (by (try simp only [List.map_toArray, List.map_cons, List.map_nil]); first | done | (rw [show t303.length = t293.length from (Kd.R_reads' HO_301000.out).1.symm, show t304.length = t296.length from (Kd.R_reads' HO_301001.out).1.symm] <;> rfl) | rfl | (simp only [List.length_drop, List.length_take]; rfl)) ?_; (with_reducible refine (laws_heldBolts.calls kj3 _ _ t303 _ _ t304 1 t305 _ ?side1 ?side2 ?side3 ?side4 A28.out).mono ?_); (case side1 => repeat (first | exact (Kd.R_reads' HO_301000.out).2.2 | (with_reducible refine Kd.C_alloc ?_ _) | (with_reducible refine Kd.C_drewN ?_ _) | (with_reducible refine Kd.C_drew ?_))); (case side2 => rw [show t303.length = t293.length from (Kd.R_reads' HO_301000.out).1.symm]; exact (Kd.R_reads' HO_301000.out).2.1); (case side3 => repeat (first | exact (Kd.R_reads' HO_301001.out).2.2 | (with_reducible refine Kd.C_alloc ?_ _) | (with_reducible refine Kd.C_drewN ?_ _) | (with_reducible refine Kd.C_drew ?_))); (case side4 => rw [show t304.length = t296.length from (Kd.R_reads' HO_301001.out).1.symm]; exact (Kd.R_reads' HO_301001.out).2.1); rintro e w34 ⟨rfl, hb⟩; refine ⟨_, rfl, ?_⟩; have n0_ := Aside0.mk (Kd.R_below (by (with_reducible repeat (first | apply Kd.R_alloc | apply Kd.R_drewN | apply Kd.R_drew)); exact HO_293000.out) hb); have n1_ := Aside0.mk (Kd.R_below (by (with_reducible repeat (first | apply Kd.R_alloc | apply Kd.R_drewN | apply Kd.R_drew)); exact HO_293001.out) hb); have n2_ := Aside0.mk (Kd.R_below (by (with_reducible repeat (first | apply Kd.R_alloc | apply Kd.R_drewN | apply Kd.R_drew)); exact HO_301000.out) hb); have n3_ := Aside0.mk (Kd.R_below (by (with_reducible repeat (first | apply Kd.R_alloc | apply Kd.R_drewN | apply Kd.R_drew)); exact HO_301001.out) hb); have n4_ := Aside0.mk (blk_below (g := gb292) (o := .cells #[.slice Ao7 t285.length co7, .slice Ao9 t288.length co9] 34 (0, 0)) (by (with_reducible repeat (first | refine blk_drewN ?_ _ | refine blk_drew ?_ | refine blk_alloc ?_ _)); exact BK292.out) hb); have n5_ := Aside0.mk (blk_below (g := gb300) (o := .cells #[.slice Ao12 t293.length co12, .slice Ao15 t296.length co15] 34 (0, 0)) (by (with_reducible repeat (first | refine blk_drewN ?_ _ | refine blk_drew ?_ | refine blk_alloc ?_ _)); exact BK300.out) hb); have n6_ := Aside0.mk (below_step (by repeat (first | (with_reducible first | exact HB.out | apply below_alloc | apply pw_below_drewN | apply below_drew1 | refine below_set ?_ GE292.out | refine below_set ?_ GE300.out) | exact HB.out)) hb); clear HO_293000; clear HO_293001; clear HO_301000; clear HO_301001; clear BK292; clear BK300; clear HB; have HO_293000 := n0_; have HO_293001 := n1_; have HO_301000 := n2_; have HO_301001 := n3_; have BK292 := n4_; have BK300 := n5_; have HB := n6_; clear n0_ n1_ n2_ n3_ n4_ n5_ n6_; (try clear hb); (try clear hb2); (try clear hk); (try clear hi)))
          go_ret
          exact ⟨by first | rfl | (simp [errW_none, errW_some] <;> rfl) | (simp [*, errW_none, errW_some] <;> rfl), by repeat (first | (with_reducible first | exact HB.out | apply below_alloc | apply pw_below_drewN | apply below_drew1 | refine below_set ?_ GE292.out | refine below_set ?_ GE300.out) | exact HB.out)⟩
        · rw [if_neg c29] at H
          have c29b0 : decide (t305 < 0) = false := decide_eq_false c29
          clear c29
          by_cases c35 : t305 = t302
          · rw [if_pos c35] at H
            have c35b0 : (t305 == t302) = true := beq_iff_eq.mpr c35
            have c35b1 : (t305 != t302) = false := bne_eq_false_iff_eq.mpr c35
            clear c35
            replace H := Option.bind_eq_some_iff.mp H
            obtain ⟨⟨t306, t309, t312⟩, A360, H⟩ := H
            replace H : ((laws_eqBolts.f kj3 t306 t309 t285 t288).bind fun t314 => (if t314 = true then (laws_FnExactBarBolts.j1 kj3 t302 (t312 != t291) t303 t304) else (laws_FnExactBarBolts.j1 kj3 t302 true t303 t304))) = some r := H
            have A36 := Aside0.mk A360
            clear A360
            have HC37 := Aside0.mk H
            clear H
            have hnb38 := NB300_292.out
            have hnc38 := NB292_300.out
            have hcz39_0 : wc.cell? ⟨gb300, 0, none⟩ = some (.slice Ao12 t293.length co12) := (blk_cell BK300.out 0).trans rfl
            have hcz39_1 : wc.cell? ⟨gb300, 1, none⟩ = some (.slice Ao15 t296.length co15) := (blk_cell BK300.out 1).trans rfl
            have hfz39_0 := blk_frozen BK300.out 0
            have hfz39_1 := blk_frozen BK300.out 1
            go_upto_region 14 with (first | ((with_reducible refine gate_callee (f := 26) rfl ?_); refine goesL_ (some 32) rfl rfl Try.func26 (by kernel_rfl) rfl #[.agg #[.slice Ao12 t293.length co12, .slice Ao15 t296.length co15], .int .i64 1] rfl (by (try simp only [List.map_toArray, List.map_cons, List.map_nil]); first | done | rfl | (simp only [List.length_drop, List.length_take]; rfl)) ?_; (with_reducible refine (laws_markBolts.calls kj3 (fun k_ => some k_ = (.slice Ao12 t293.length co12 : Value).ownBlock) (.slice Ao12 t293.length co12) t293 (fun k_ => some k_ = (.slice Ao15 t296.length co15 : Value).ownBlock) (.slice Ao15 t296.length co15) t296 1 t302 t303 t304 w _ ?side1 ?side2 ?side3 A27.out).mono ?_); (case side1 => repeat (first | (with_reducible first | exact HB.out | apply below_alloc | apply pw_below_drewN | apply below_drew1 | refine below_set ?_ GE292.out | refine below_set ?_ GE300.out) | exact HB.out)); (case side2 => exact Kd.R_tight rfl HO_301000.out); (case side3 => exact Kd.R_tight rfl HO_301001.out); rintro e w40 ⟨rfl, hy0, hy1, hb, hkp⟩; refine ⟨_, rfl, ?_⟩; have n0_ := Aside0.mk (Kd.R_mono (ok' := fun k_ => some k_ ≠ (.slice Ao12 t293.length co12 : Value).ownBlock) (Kd.R_keptB ((Kd.R_apart' HO_293000.out (Kd.R_typed HO_301001.out) (by decide))) hkp (fun k_ hk_ hs_ => Or.elim hs_ (fun e_ => (hk_.1) e_) (fun e_ => (hk_.2) e_))) (fun k_ hk_ => hk_.1.1)); have n1_ := Aside0.mk (Kd.R_mono (ok' := fun k_ => some k_ ≠ (.slice Ao15 t296.length co15 : Value).ownBlock) (Kd.R_keptB ((Kd.R_apart' HO_293001.out (Kd.R_typed HO_301000.out) (by decide))) hkp (fun k_ hk_ hs_ => Or.elim hs_ (fun e_ => (hk_.2) e_) (fun e_ => (hk_.1) e_))) (fun k_ hk_ => hk_.1.1)); have n2_ := Aside0.mk (Kd.R_reok rfl hy0 (fun k_ e_ => HO_301000.out.1 k_ e_)); have n3_ := Aside0.mk (Kd.R_reok rfl hy1 (fun k_ e_ => HO_301001.out.1 k_ e_)); have n4_ := Aside0.mk (blk_kept (by (with_reducible repeat (first | refine blk_drewN ?_ _ | refine blk_drew ?_ | refine blk_alloc ?_ _)); exact BK292.out) hkp (fun hs_ => Or.elim hs_ (fun e_ => (fun e_ => (Kd.R_ne HO_301000.out BK292.out (by decide)) e_) e_) (fun e_ => (fun e_ => (Kd.R_ne HO_301001.out BK292.out (by decide)) e_) e_))); have n5_ := Aside0.mk (blk_kept (by (with_reducible repeat (first | refine blk_drewN ?_ _ | refine blk_drew ?_ | refine blk_alloc ?_ _)); exact BK300.out) hkp (fun hs_ => Or.elim hs_ (fun e_ => (fun e_ => (Kd.R_ne HO_301000.out BK300.out (by decide)) e_) e_) (fun e_ => (fun e_ => (Kd.R_ne HO_301001.out BK300.out (by decide)) e_) e_))); have n6_ := Aside0.mk (hb); clear HO_293000; clear HO_293001; clear HO_301000; clear HO_301001; clear BK292; clear BK300; clear HB; have HO_293000 := n0_; have HO_293001 := n1_; have HO_301000 := n2_; have HO_301001 := n3_; have BK292 := n4_; have BK300 := n5_; have HB := n6_; clear n0_ n1_ n2_ n3_ n4_ n5_ n6_; (try clear hb); (try clear hkp); (try clear hy0); (try clear hy1); have hcz41_0 : w40.cell? ⟨gb300, 0, none⟩ = some (.slice Ao12 t293.length co12) := (blk_cell BK300.out 0).trans rfl; have hcz41_1 : w40.cell? ⟨gb300, 1, none⟩ = some (.slice Ao15 t296.length co15) := (blk_cell BK300.out 1).trans rfl; have hfz41_0 := blk_frozen BK300.out 0; have hfz41_1 := blk_frozen BK300.out 1) | ((with_reducible refine gate_callee (f := 27) rfl ?_); refine goesL_ (some 35) rfl rfl Try.func27 (by kernel_rfl) rfl #[.agg #[.slice Ao12 t303.length co12, .slice Ao15 t304.length co15], .int .i64 1] rfl (by (try simp only [List.map_toArray, List.map_cons, List.map_nil]); first | done | (rw [show t303.length = t293.length from (Kd.R_reads' HO_301000.out).1.symm, show t304.length = t296.length from (Kd.R_reads' HO_301001.out).1.symm] <;> rfl) | rfl | (simp only [List.length_drop, List.length_take]; rfl)) ?_; (with_reducible refine (laws_heldBolts.calls kj3 _ _ t303 _ _ t304 1 t305 _ ?side1 ?side2 ?side3 ?side4 A28.out).mono ?_); (case side1 => repeat (first | exact (Kd.R_reads' HO_301000.out).2.2 | (with_reducible refine Kd.C_alloc ?_ _) | (with_reducible refine Kd.C_drewN ?_ _) | (with_reducible refine Kd.C_drew ?_))); (case side2 => rw [show t303.length = t293.length from (Kd.R_reads' HO_301000.out).1.symm]; exact (Kd.R_reads' HO_301000.out).2.1); (case side3 => repeat (first | exact (Kd.R_reads' HO_301001.out).2.2 | (with_reducible refine Kd.C_alloc ?_ _) | (with_reducible refine Kd.C_drewN ?_ _) | (with_reducible refine Kd.C_drew ?_))); (case side4 => rw [show t304.length = t296.length from (Kd.R_reads' HO_301001.out).1.symm]; exact (Kd.R_reads' HO_301001.out).2.1); rintro e w42 ⟨rfl, hb⟩; refine ⟨_, rfl, ?_⟩; have n0_ := Aside0.mk (Kd.R_below (by (with_reducible repeat (first | apply Kd.R_alloc | apply Kd.R_drewN | apply Kd.R_drew)); exact HO_293000.out) hb); have n1_ := Aside0.mk (Kd.R_below (by (with_reducible repeat (first | apply Kd.R_alloc | apply Kd.R_drewN | apply Kd.R_drew)); exact HO_293001.out) hb); have n2_ := Aside0.mk (Kd.R_below (by (with_reducible repeat (first | apply Kd.R_alloc | apply Kd.R_drewN | apply Kd.R_drew)); exact HO_301000.out) hb); have n3_ := Aside0.mk (Kd.R_below (by (with_reducible repeat (first | apply Kd.R_alloc | apply Kd.R_drewN | apply Kd.R_drew)); exact HO_301001.out) hb); have n4_ := Aside0.mk (blk_below (g := gb292) (o := .cells #[.slice Ao7 t285.length co7, .slice Ao9 t288.length co9] 34 (0, 0)) (by (with_reducible repeat (first | refine blk_drewN ?_ _ | refine blk_drew ?_ | refine blk_alloc ?_ _)); exact BK292.out) hb); have n5_ := Aside0.mk (blk_below (g := gb300) (o := .cells #[.slice Ao12 t293.length co12, .slice Ao15 t296.length co15] 34 (0, 0)) (by (with_reducible repeat (first | refine blk_drewN ?_ _ | refine blk_drew ?_ | refine blk_alloc ?_ _)); exact BK300.out) hb); have n6_ := Aside0.mk (below_step (by repeat (first | (with_reducible first | exact HB.out | apply below_alloc | apply pw_below_drewN | apply below_drew1 | refine below_set ?_ GE292.out | refine below_set ?_ GE300.out) | exact HB.out)) hb); clear HO_293000; clear HO_293001; clear HO_301000; clear HO_301001; clear BK292; clear BK300; clear HB; have HO_293000 := n0_; have HO_293001 := n1_; have HO_301000 := n2_; have HO_301001 := n3_; have BK292 := n4_; have BK300 := n5_; have HB := n6_; clear n0_ n1_ n2_ n3_ n4_ n5_ n6_; (try clear hb); (try clear hb2); (try clear hk); (try clear hi)) | ((with_reducible refine gate_callee (f := 24) rfl ?_); refine goesL_ (some 43) rfl rfl Try.func24 (by kernel_rfl) rfl #[.int .i64 a0] rfl (by (try simp only [List.map_toArray, List.map_cons, List.map_nil]); first | done | rfl | (simp only [List.length_drop, List.length_take]; rfl)) ?_; (with_reducible refine (impl_BarBolts.calls kj3 a0 t306 t309 t312 _ A36.out).mono ?_); rintro e w43 ⟨v307, v310, rfl, ho0, ho1, hb⟩; refine ⟨_, rfl, ?_⟩; have n0_ := Aside0.mk (Kd.R_elder' (by (with_reducible repeat (first | apply Kd.R_alloc | apply Kd.R_drewN | apply Kd.R_drew)); exact HO_293000.out) (Kd.R_base ho0) hb); have n1_ := Aside0.mk (Kd.R_elder' (by (with_reducible repeat (first | apply Kd.R_alloc | apply Kd.R_drewN | apply Kd.R_drew)); exact HO_293001.out) (Kd.R_base ho1) hb); have n2_ := Aside0.mk (Kd.R_elder' (by (with_reducible repeat (first | apply Kd.R_alloc | apply Kd.R_drewN | apply Kd.R_drew)); exact HO_301000.out) (Kd.R_base ho0) hb); have n3_ := Aside0.mk (Kd.R_elder' (by (with_reducible repeat (first | apply Kd.R_alloc | apply Kd.R_drewN | apply Kd.R_drew)); exact HO_301001.out) (Kd.R_base ho1) hb); have n4_ := Aside0.mk (Kd.R_lower (Kd.R_new' (Kd.R_new' ho0 (Kd.R_lt (by (with_reducible repeat (first | apply Kd.R_alloc | apply Kd.R_drewN | apply Kd.R_drew)); exact HO_293000.out))) (Kd.R_lt (by (with_reducible repeat (first | apply Kd.R_alloc | apply Kd.R_drewN | apply Kd.R_drew)); exact HO_301000.out))) (below_size (by repeat (first | (with_reducible first | exact HB.out | apply below_alloc | apply pw_below_drewN | apply below_drew1 | refine below_set ?_ GE292.out | refine below_set ?_ GE300.out) | exact HB.out)))); have n5_ := Aside0.mk (Kd.R_lower (Kd.R_new' (Kd.R_new' ho1 (Kd.R_lt (by (with_reducible repeat (first | apply Kd.R_alloc | apply Kd.R_drewN | apply Kd.R_drew)); exact HO_293001.out))) (Kd.R_lt (by (with_reducible repeat (first | apply Kd.R_alloc | apply Kd.R_drewN | apply Kd.R_drew)); exact HO_301001.out))) (below_size (by repeat (first | (with_reducible first | exact HB.out | apply below_alloc | apply pw_below_drewN | apply below_drew1 | refine below_set ?_ GE292.out | refine below_set ?_ GE300.out) | exact HB.out)))); have n6_ := Aside0.mk (blk_below (g := gb292) (o := .cells #[.slice Ao7 t285.length co7, .slice Ao9 t288.length co9] 34 (0, 0)) (by (with_reducible repeat (first | refine blk_drewN ?_ _ | refine blk_drew ?_ | refine blk_alloc ?_ _)); exact BK292.out) hb); have n7_ := Aside0.mk (blk_below (g := gb300) (o := .cells #[.slice Ao12 t293.length co12, .slice Ao15 t296.length co15] 34 (0, 0)) (by (with_reducible repeat (first | refine blk_drewN ?_ _ | refine blk_drew ?_ | refine blk_alloc ?_ _)); exact BK300.out) hb); have n8_ := Aside0.mk (below_step (by repeat (first | (with_reducible first | exact HB.out | apply below_alloc | apply pw_below_drewN | apply below_drew1 | refine below_set ?_ GE292.out | refine below_set ?_ GE300.out) | exact HB.out)) hb); clear HO_293000; clear HO_293001; clear HO_301000; clear HO_301001; clear BK292; clear BK300; clear HB; have HO_293000 := n0_; have HO_293001 := n1_; have HO_301000 := n2_; have HO_301001 := n3_; have HO308 := n4_; have HO311 := n5_; have BK292 := n6_; have BK300 := n7_; have HB := n8_; clear n0_ n1_ n2_ n3_ n4_ n5_ n6_ n7_ n8_; (try clear hb); (try clear hb2); (try clear hk); (try clear hi); (try clear ho0); (try clear ho1)) | ((with_reducible refine gate_dst (N := 9) rfl ?_); refine box_event ?hg (N := 9) ?hd (cs := #[.slice none 0 0, .slice none 0 0]) (t := 34) ?hr ?_; (case hd => rfl); (case hg => rfl); (case hr => first | (go_simp; done) | (go_simp; rfl)); intro gb313 hg w44 hbox hb; have n0_ := Aside0.mk (Kd.R_below (by (with_reducible repeat (first | apply Kd.R_alloc | apply Kd.R_drewN | apply Kd.R_drew)); exact HO_293000.out) hb); have n1_ := Aside0.mk (Kd.R_below (by (with_reducible repeat (first | apply Kd.R_alloc | apply Kd.R_drewN | apply Kd.R_drew)); exact HO_293001.out) hb); have n2_ := Aside0.mk (Kd.R_below (by (with_reducible repeat (first | apply Kd.R_alloc | apply Kd.R_drewN | apply Kd.R_drew)); exact HO_301000.out) hb); have n3_ := Aside0.mk (Kd.R_below (by (with_reducible repeat (first | apply Kd.R_alloc | apply Kd.R_drewN | apply Kd.R_drew)); exact HO_301001.out) hb); have n4_ := Aside0.mk (Kd.R_below (by (with_reducible repeat (first | apply Kd.R_alloc | apply Kd.R_drewN | apply Kd.R_drew)); exact HO308.out) hb); have n5_ := Aside0.mk (Kd.R_below (by (with_reducible repeat (first | apply Kd.R_alloc | apply Kd.R_drewN | apply Kd.R_drew)); exact HO311.out) hb); have n6_ := Aside0.mk (blk_below (g := gb292) (o := .cells #[.slice Ao7 t285.length co7, .slice Ao9 t288.length co9] 34 (0, 0)) (by (with_reducible repeat (first | refine blk_drewN ?_ _ | refine blk_drew ?_ | refine blk_alloc ?_ _)); exact BK292.out) hb); have n7_ := Aside0.mk (blk_below (g := gb300) (o := .cells #[.slice Ao12 t293.length co12, .slice Ao15 t296.length co15] 34 (0, 0)) (by (with_reducible repeat (first | refine blk_drewN ?_ _ | refine blk_drew ?_ | refine blk_alloc ?_ _)); exact BK300.out) hb); have n8_ := Aside0.mk (below_step (by repeat (first | (with_reducible first | exact HB.out | apply below_alloc | apply pw_below_drewN | apply below_drew1 | refine below_set ?_ GE292.out | refine below_set ?_ GE300.out) | exact HB.out)) hb); have n9_ := Aside0.mk (hbox); have n10_ := Aside0.mk ((by rw [hg]; exact (below_size (by repeat (first | (with_reducible first | exact HB.out | apply below_alloc | apply pw_below_drewN | apply below_drew1 | refine below_set ?_ GE292.out | refine below_set ?_ GE300.out) | exact HB.out))) : w.heap.size ≤ gb313)); have n11_ := Aside0.mk ((by rw [hg]; exact (below_size (by repeat (first | (with_reducible first | exact HB.out | apply below_alloc | apply pw_below_drewN | apply below_drew1 | refine below_set ?_ GE292.out | refine below_set ?_ GE300.out) | exact HB.out))) : w.heap.size ≤ gb313)); have n12_ := Aside0.mk ((by rw [hg]; exact Nat.ne_of_lt (blk_lt (g := gb292) (o := .cells #[.slice Ao7 t285.length co7, .slice Ao9 t288.length co9] 34 (0, 0)) (by (with_reducible repeat (first | refine blk_drewN ?_ _ | refine blk_drew ?_ | refine blk_alloc ?_ _)); exact BK292.out)) : gb292 ≠ gb313)); have n13_ := Aside0.mk ((by rw [hg]; exact Nat.ne_of_gt (blk_lt (g := gb292) (o := .cells #[.slice Ao7 t285.length co7, .slice Ao9 t288.length co9] 34 (0, 0)) (by (with_reducible repeat (first | refine blk_drewN ?_ _ | refine blk_drew ?_ | refine blk_alloc ?_ _)); exact BK292.out)) : gb313 ≠ gb292)); have n14_ := Aside0.mk ((by rw [hg]; exact Nat.ne_of_lt (blk_lt (g := gb300) (o := .cells #[.slice Ao12 t293.length co12, .slice Ao15 t296.length co15] 34 (0, 0)) (by (with_reducible repeat (first | refine blk_drewN ?_ _ | refine blk_drew ?_ | refine blk_alloc ?_ _)); exact BK300.out)) : gb300 ≠ gb313)); have n15_ := Aside0.mk ((by rw [hg]; exact Nat.ne_of_gt (blk_lt (g := gb300) (o := .cells #[.slice Ao12 t293.length co12, .slice Ao15 t296.length co15] 34 (0, 0)) (by (with_reducible repeat (first | refine blk_drewN ?_ _ | refine blk_drew ?_ | refine blk_alloc ?_ _)); exact BK300.out)) : gb313 ≠ gb300)); clear HO_293000; clear HO_293001; clear HO_301000; clear HO_301001; clear HO308; clear HO311; clear BK292; clear BK300; clear HB; have HO_293000 := n0_; have HO_293001 := n1_; have HO_301000 := n2_; have HO_301001 := n3_; have HO308 := n4_; have HO311 := n5_; have BK292 := n6_; have BK300 := n7_; have HB := n8_; have BK313 := n9_; have GW313 := n10_; have GE313 := n11_; have NB292_313 := n12_; have NB313_292 := n13_; have NB300_313 := n14_; have NB313_300 := n15_; clear n0_ n1_ n2_ n3_ n4_ n5_ n6_ n7_ n8_ n9_ n10_ n11_ n12_ n13_ n14_ n15_; clear hb hbox hg; obtain ⟨Ao45, co45, eo45⟩ := Kd.R_slice HO308.out; subst eo45; have hnb46 := NB313_292.out; have hnc46 := NB292_313.out; have hnb47 := NB313_300.out; have hnc47 := NB300_313.out; have hcz48_0 : w44.cell? ⟨gb313, 0, none⟩ = some (.slice none 0 0) := (blk_cell BK313.out 0).trans rfl; have hcz48_1 : w44.cell? ⟨gb313, 1, none⟩ = some (.slice none 0 0) := (blk_cell BK313.out 1).trans rfl; have hfz48_0 := blk_frozen BK313.out 0; have hfz48_1 := blk_frozen BK313.out 1; obtain ⟨Ao49, co49, eo49⟩ := Kd.R_slice HO311.out; subst eo49))
            (try simp only [Act.put, List.setIfInBounds_toArray, List.set_cons_zero, List.set_cons_succ])
            go_cut [54] (fun v54 wc => ∃ (kq : Nat) (x54_36 : Bool), v54 = .bool x54_36 ∧ Aside0 (laws_FnExactBarBolts.j1 kq t302 x54_36 t303 t304 = some r) ∧ Aside0 (kq ≤ kj3) ∧ Aside0 (Kd.R (Kd.int .i64) 3 wc w.heap.size (fun k_ => some k_ ≠ ((.slice Ao12 t293.length co12) : Value).ownBlock ∧ some k_ ≠ ((.slice Ao45 t306.length co45) : Value).ownBlock) (.slice Ao7 t285.length co7) t285) ∧ Aside0 (Kd.R k67 67 wc w.heap.size (fun k_ => some k_ ≠ ((.slice Ao15 t296.length co15) : Value).ownBlock ∧ some k_ ≠ ((.slice Ao49 t309.length co49) : Value).ownBlock) (.slice Ao9 t288.length co9) t288) ∧ Aside0 (Kd.R (Kd.int .i64) 3 wc w.heap.size (fun k_ => some k_ ≠ ((.slice Ao7 t285.length co7) : Value).ownBlock ∧ some k_ ≠ ((.slice Ao45 t306.length co45) : Value).ownBlock) (.slice Ao12 t293.length co12) t303) ∧ Aside0 (Kd.R k67 67 wc w.heap.size (fun k_ => some k_ ≠ ((.slice Ao9 t288.length co9) : Value).ownBlock ∧ some k_ ≠ ((.slice Ao49 t309.length co49) : Value).ownBlock) (.slice Ao15 t296.length co15) t304) ∧ Aside0 (Kd.R (Kd.int .i64) 3 wc w.heap.size (fun k_ => some k_ ≠ ((.slice Ao7 t285.length co7) : Value).ownBlock ∧ some k_ ≠ ((.slice Ao12 t293.length co12) : Value).ownBlock) (.slice Ao45 t306.length co45) t306) ∧ Aside0 (Kd.R k67 67 wc w.heap.size (fun k_ => some k_ ≠ ((.slice Ao9 t288.length co9) : Value).ownBlock ∧ some k_ ≠ ((.slice Ao15 t296.length co15) : Value).ownBlock) (.slice Ao49 t309.length co49) t309) ∧ Aside0 (wc.heap[gb292]? = some (.cells #[(.slice Ao7 t285.length co7), (.slice Ao9 t288.length co9)] 34 (0, 0))) ∧ Aside0 (wc.heap[gb300]? = some (.cells #[(.slice Ao12 t293.length co12), (.slice Ao15 t296.length co15)] 34 (0, 0))) ∧ Aside0 (wc.heap[gb313]? = some (.cells #[(.slice Ao45 t306.length co45), (.slice Ao49 t309.length co49)] 34 (0, 0))) ∧ Aside0 (Below w.heap.size w wc))
            case first =>
              have H := HC37.out
              clear HC37
              replace H := Option.bind_eq_some_iff.mp H
              obtain ⟨t314, A500, H⟩ := H
              replace H : (if t314 = true then (laws_FnExactBarBolts.j1 kj3 t302 (t312 != t291) t303 t304) else (laws_FnExactBarBolts.j1 kj3 t302 true t303 t304)) = some r := H
              have A50 := Aside0.mk A500
              clear A500
              by_cases c51 : t314 = true
              · subst c51
                have H1 : (laws_FnExactBarBolts.j1 kj3 t302 (t312 != t291) t303 t304) = some r := by rw [if_pos rfl] at H; exact H
                clear H
                have H := H1
                clear H1
                have H' := Aside0.mk H
                clear H
                have hnb52 := NB313_292.out
                have hnc52 := NB292_313.out
                have hnb53 := NB313_300.out
                have hnc53 := NB300_313.out
                have hcz54_0 : w44.cell? ⟨gb313, 0, none⟩ = some (.slice none 0 0) := (blk_cell BK313.out 0).trans rfl
                have hcz54_1 : w44.cell? ⟨gb313, 1, none⟩ = some (.slice none 0 0) := (blk_cell BK313.out 1).trans rfl
                have hfz54_0 := blk_frozen BK313.out 0
                have hfz54_1 := blk_frozen BK313.out 1
                have hnb55 := NB292_300.out
                have hnc55 := NB300_292.out
                have hcz56_0 : w44.cell? ⟨gb292, 0, none⟩ = some (.slice Ao7 t285.length co7) := (blk_cell BK292.out 0).trans rfl
                have hcz56_1 : w44.cell? ⟨gb292, 1, none⟩ = some (.slice Ao9 t288.length co9) := (blk_cell BK292.out 1).trans rfl
                have hfz56_0 := blk_frozen BK292.out 0
                have hfz56_1 := blk_frozen BK292.out 1
                go_wp2_with (first | ((with_reducible refine gate_callee (f := 25) rfl ?_); refine goesL_ (some 48) rfl rfl Try.func25 (by kernel_rfl) rfl #[.agg #[.slice Ao45 t306.length co45, .slice Ao49 t309.length co49], .agg #[.slice Ao7 t285.length co7, .slice Ao9 t288.length co9]] rfl (by (try simp only [List.map_toArray, List.map_cons, List.map_nil]); first | done | rfl | (simp only [List.length_drop, List.length_take]; rfl)) ?_; (with_reducible refine (laws_eqBolts.calls kj3 _ _ t306 _ _ t309 _ _ t285 _ _ t288 true _ ?side1 ?side2 ?side3 ?side4 ?side5 ?side6 ?side7 ?side8 A50.out).mono ?_); (case side1 => refine (Kd.R_reads' (e := 3) (base := w.heap.size) (ok := fun k_ => ((True ∧ some k_ ≠ (.slice Ao7 t285.length co7 : Value).ownBlock) ∧ some k_ ≠ (.slice Ao12 t293.length co12 : Value).ownBlock)) (n := t306.length) (c := co45) ?_).2.2; exact (by (with_reducible repeat (first | apply Kd.R_alloc | apply Kd.R_drewN | apply Kd.R_drew)); exact (Kd.R_mono (Kd.R_far (p := ⟨gb313, 1, none⟩) (Kd.R_far (p := ⟨gb313, 0, none⟩) (Kd.R_types HO308.out BK313.out (by decide)) (fun _ hk => hk.2) (.slice Ao45 t306.length co45)) (fun _ hk => hk.2) (.slice Ao49 t309.length co49)) (fun _ h_ => h_.1)))); (case side2 => exact (Kd.R_reads' HO308.out).2.1); (case side3 => refine (Kd.R_reads' (e := 67) (base := w.heap.size) (ok := fun k_ => ((True ∧ some k_ ≠ (.slice Ao9 t288.length co9 : Value).ownBlock) ∧ some k_ ≠ (.slice Ao15 t296.length co15 : Value).ownBlock)) (n := t309.length) (c := co49) ?_).2.2; exact (by (with_reducible repeat (first | apply Kd.R_alloc | apply Kd.R_drewN | apply Kd.R_drew)); exact (Kd.R_mono (Kd.R_far (p := ⟨gb313, 1, none⟩) (Kd.R_far (p := ⟨gb313, 0, none⟩) (Kd.R_types HO311.out BK313.out (by decide)) (fun _ hk => hk.2) (.slice Ao45 t306.length co45)) (fun _ hk => hk.2) (.slice Ao49 t309.length co49)) (fun _ h_ => h_.1)))); (case side4 => exact (Kd.R_reads' HO311.out).2.1); (case side5 => refine (Kd.R_reads' (e := 3) (base := w.heap.size) (ok := fun k_ => (some k_ ≠ (.slice Ao12 t293.length co12 : Value).ownBlock ∧ some k_ ≠ (.slice Ao45 t306.length co45 : Value).ownBlock)) (n := t285.length) (c := co7) ?_).2.2; exact (by (with_reducible repeat (first | apply Kd.R_alloc | apply Kd.R_drewN | apply Kd.R_drew)); exact (Kd.R_mono (Kd.R_far (p := ⟨gb313, 1, none⟩) (Kd.R_far (p := ⟨gb313, 0, none⟩) (Kd.R_types HO_293000.out BK313.out (by decide)) (fun _ hk => hk.2) (.slice Ao45 t306.length co45)) (fun _ hk => hk.2) (.slice Ao49 t309.length co49)) (fun _ h_ => h_.1)))); (case side6 => exact (Kd.R_reads' HO_293000.out).2.1); (case side7 => refine (Kd.R_reads' (e := 67) (base := w.heap.size) (ok := fun k_ => (some k_ ≠ (.slice Ao15 t296.length co15 : Value).ownBlock ∧ some k_ ≠ (.slice Ao49 t309.length co49 : Value).ownBlock)) (n := t288.length) (c := co9) ?_).2.2; exact (by (with_reducible repeat (first | apply Kd.R_alloc | apply Kd.R_drewN | apply Kd.R_drew)); exact (Kd.R_mono (Kd.R_far (p := ⟨gb313, 1, none⟩) (Kd.R_far (p := ⟨gb313, 0, none⟩) (Kd.R_types HO_293001.out BK313.out (by decide)) (fun _ hk => hk.2) (.slice Ao45 t306.length co45)) (fun _ hk => hk.2) (.slice Ao49 t309.length co49)) (fun _ h_ => h_.1)))); (case side8 => exact (Kd.R_reads' HO_293001.out).2.1); rintro e w57 ⟨rfl, hb⟩; refine ⟨_, rfl, ?_⟩; have n0_ := Aside0.mk (Kd.R_below (by (with_reducible repeat (first | apply Kd.R_alloc | apply Kd.R_drewN | apply Kd.R_drew)); exact (Kd.R_mono (Kd.R_far (p := ⟨gb313, 1, none⟩) (Kd.R_far (p := ⟨gb313, 0, none⟩) (Kd.R_types HO_293000.out BK313.out (by decide)) (fun _ hk => hk.2) (.slice Ao45 t306.length co45)) (fun _ hk => hk.2) (.slice Ao49 t309.length co49)) (fun _ h_ => h_.1))) hb); have n1_ := Aside0.mk (Kd.R_below (by (with_reducible repeat (first | apply Kd.R_alloc | apply Kd.R_drewN | apply Kd.R_drew)); exact (Kd.R_mono (Kd.R_far (p := ⟨gb313, 1, none⟩) (Kd.R_far (p := ⟨gb313, 0, none⟩) (Kd.R_types HO_293001.out BK313.out (by decide)) (fun _ hk => hk.2) (.slice Ao45 t306.length co45)) (fun _ hk => hk.2) (.slice Ao49 t309.length co49)) (fun _ h_ => h_.1))) hb); have n2_ := Aside0.mk (Kd.R_below (by (with_reducible repeat (first | apply Kd.R_alloc | apply Kd.R_drewN | apply Kd.R_drew)); exact (Kd.R_mono (Kd.R_far (p := ⟨gb313, 1, none⟩) (Kd.R_far (p := ⟨gb313, 0, none⟩) (Kd.R_types HO_301000.out BK313.out (by decide)) (fun _ hk => hk.2) (.slice Ao45 t306.length co45)) (fun _ hk => hk.2) (.slice Ao49 t309.length co49)) (fun _ h_ => h_.1))) hb); have n3_ := Aside0.mk (Kd.R_below (by (with_reducible repeat (first | apply Kd.R_alloc | apply Kd.R_drewN | apply Kd.R_drew)); exact (Kd.R_mono (Kd.R_far (p := ⟨gb313, 1, none⟩) (Kd.R_far (p := ⟨gb313, 0, none⟩) (Kd.R_types HO_301001.out BK313.out (by decide)) (fun _ hk => hk.2) (.slice Ao45 t306.length co45)) (fun _ hk => hk.2) (.slice Ao49 t309.length co49)) (fun _ h_ => h_.1))) hb); have n4_ := Aside0.mk (Kd.R_below (by (with_reducible repeat (first | apply Kd.R_alloc | apply Kd.R_drewN | apply Kd.R_drew)); exact (Kd.R_mono (Kd.R_far (p := ⟨gb313, 1, none⟩) (Kd.R_far (p := ⟨gb313, 0, none⟩) (Kd.R_types HO308.out BK313.out (by decide)) (fun _ hk => hk.2) (.slice Ao45 t306.length co45)) (fun _ hk => hk.2) (.slice Ao49 t309.length co49)) (fun _ h_ => h_.1))) hb); have n5_ := Aside0.mk (Kd.R_below (by (with_reducible repeat (first | apply Kd.R_alloc | apply Kd.R_drewN | apply Kd.R_drew)); exact (Kd.R_mono (Kd.R_far (p := ⟨gb313, 1, none⟩) (Kd.R_far (p := ⟨gb313, 0, none⟩) (Kd.R_types HO311.out BK313.out (by decide)) (fun _ hk => hk.2) (.slice Ao45 t306.length co45)) (fun _ hk => hk.2) (.slice Ao49 t309.length co49)) (fun _ h_ => h_.1))) hb); have n6_ := Aside0.mk (blk_below (g := gb292) (o := .cells #[.slice Ao7 t285.length co7, .slice Ao9 t288.length co9] 34 (0, 0)) (by (with_reducible repeat (first | refine blk_drewN ?_ _ | refine blk_drew ?_ | refine blk_alloc ?_ _)); refine blk_far ?_ NB292_313.out _; (with_reducible repeat (first | refine blk_drewN ?_ _ | refine blk_drew ?_ | refine blk_alloc ?_ _)); refine blk_far ?_ NB292_313.out _; (with_reducible repeat (first | refine blk_drewN ?_ _ | refine blk_drew ?_ | refine blk_alloc ?_ _)); exact BK292.out) hb); have n7_ := Aside0.mk (blk_below (g := gb300) (o := .cells #[.slice Ao12 t293.length co12, .slice Ao15 t296.length co15] 34 (0, 0)) (by (with_reducible repeat (first | refine blk_drewN ?_ _ | refine blk_drew ?_ | refine blk_alloc ?_ _)); refine blk_far ?_ NB300_313.out _; (with_reducible repeat (first | refine blk_drewN ?_ _ | refine blk_drew ?_ | refine blk_alloc ?_ _)); refine blk_far ?_ NB300_313.out _; (with_reducible repeat (first | refine blk_drewN ?_ _ | refine blk_drew ?_ | refine blk_alloc ?_ _)); exact BK300.out) hb); have n8_ := Aside0.mk (blk_below (g := gb313) (o := .cells #[.slice Ao45 t306.length co45, .slice Ao49 t309.length co49] 34 (0, 0)) (by (with_reducible repeat (first | refine blk_drewN ?_ _ | refine blk_drew ?_ | refine blk_alloc ?_ _)); refine blk_put (cs := #[.slice Ao45 t306.length co45, .slice none 0 0]) ?_ 1 _ rfl; (with_reducible repeat (first | refine blk_drewN ?_ _ | refine blk_drew ?_ | refine blk_alloc ?_ _)); refine blk_put (cs := #[.slice none 0 0, .slice none 0 0]) ?_ 0 _ rfl; (with_reducible repeat (first | refine blk_drewN ?_ _ | refine blk_drew ?_ | refine blk_alloc ?_ _)); exact BK313.out) hb); have n9_ := Aside0.mk (below_step (by repeat (first | (with_reducible first | exact HB.out | apply below_alloc | apply pw_below_drewN | apply below_drew1 | refine below_set ?_ GE292.out | refine below_set ?_ GE300.out | refine below_set ?_ GE313.out) | exact HB.out)) hb); clear HO_293000; clear HO_293001; clear HO_301000; clear HO_301001; clear HO308; clear HO311; clear BK292; clear BK300; clear BK313; clear HB; have HO_293000 := n0_; have HO_293001 := n1_; have HO_301000 := n2_; have HO_301001 := n3_; have HO308 := n4_; have HO311 := n5_; have BK292 := n6_; have BK300 := n7_; have BK313 := n8_; have HB := n9_; clear n0_ n1_ n2_ n3_ n4_ n5_ n6_ n7_ n8_ n9_; (try clear hb); (try clear hb2); (try clear hk); (try clear hi)))
                go_meet
                case rel => exact ⟨_, ((t312 != t291)), (by first | rfl | (simp; done) | (simp [*]; done)), H', ⟨by have := HJ3.out; first | omega | exact Nat.le_refl _⟩, ⟨by (with_reducible repeat (first | apply Kd.R_alloc | apply Kd.R_drewN | apply Kd.R_drew)); exact HO_293000.out⟩, ⟨by (with_reducible repeat (first | apply Kd.R_alloc | apply Kd.R_drewN | apply Kd.R_drew)); exact HO_293001.out⟩, ⟨by (with_reducible repeat (first | apply Kd.R_alloc | apply Kd.R_drewN | apply Kd.R_drew)); exact HO_301000.out⟩, ⟨by (with_reducible repeat (first | apply Kd.R_alloc | apply Kd.R_drewN | apply Kd.R_drew)); exact HO_301001.out⟩, ⟨by (with_reducible repeat (first | apply Kd.R_alloc | apply Kd.R_drewN | apply Kd.R_drew)); exact Kd.R_mono HO308.out (fun _ hk => ⟨hk.1.2, hk.2⟩)⟩, ⟨by (with_reducible repeat (first | apply Kd.R_alloc | apply Kd.R_drewN | apply Kd.R_drew)); exact Kd.R_mono HO311.out (fun _ hk => ⟨hk.1.2, hk.2⟩)⟩, ⟨by (with_reducible repeat (first | refine blk_drewN ?_ _ | refine blk_drew ?_ | refine blk_alloc ?_ _)); exact BK292.out⟩, ⟨by (with_reducible repeat (first | refine blk_drewN ?_ _ | refine blk_drew ?_ | refine blk_alloc ?_ _)); exact BK300.out⟩, ⟨by (with_reducible repeat (first | refine blk_drewN ?_ _ | refine blk_drew ?_ | refine blk_alloc ?_ _)); exact BK313.out⟩, ⟨by repeat (first | (with_reducible first | exact HB.out | apply below_alloc | apply pw_below_drewN | apply below_drew1 | refine below_set ?_ GE292.out | refine below_set ?_ GE300.out | refine below_set ?_ GE313.out) | exact HB.out)⟩⟩
              · replace c51 := Bool.eq_false_iff.mpr c51
                subst c51
                have H1 : (laws_FnExactBarBolts.j1 kj3 t302 true t303 t304) = some r := by rw [if_neg (show ¬ (false = true) by decide)] at H; exact H
                clear H
                have H := H1
                clear H1
                have H' := Aside0.mk H
                clear H
                have hnb58 := NB313_292.out
                have hnc58 := NB292_313.out
                have hnb59 := NB313_300.out
                have hnc59 := NB300_313.out
                have hcz60_0 : w44.cell? ⟨gb313, 0, none⟩ = some (.slice none 0 0) := (blk_cell BK313.out 0).trans rfl
                have hcz60_1 : w44.cell? ⟨gb313, 1, none⟩ = some (.slice none 0 0) := (blk_cell BK313.out 1).trans rfl
                have hfz60_0 := blk_frozen BK313.out 0
                have hfz60_1 := blk_frozen BK313.out 1
                have hnb61 := NB292_300.out
                have hnc61 := NB300_292.out
                have hcz62_0 : w44.cell? ⟨gb292, 0, none⟩ = some (.slice Ao7 t285.length co7) := (blk_cell BK292.out 0).trans rfl
                have hcz62_1 : w44.cell? ⟨gb292, 1, none⟩ = some (.slice Ao9 t288.length co9) := (blk_cell BK292.out 1).trans rfl
                have hfz62_0 := blk_frozen BK292.out 0
                have hfz62_1 := blk_frozen BK292.out 1
                go_wp2_with (first | ((with_reducible refine gate_callee (f := 25) rfl ?_); refine goesL_ (some 48) rfl rfl Try.func25 (by kernel_rfl) rfl #[.agg #[.slice Ao45 t306.length co45, .slice Ao49 t309.length co49], .agg #[.slice Ao7 t285.length co7, .slice Ao9 t288.length co9]] rfl (by (try simp only [List.map_toArray, List.map_cons, List.map_nil]); first | done | rfl | (simp only [List.length_drop, List.length_take]; rfl)) ?_; (with_reducible refine (laws_eqBolts.calls kj3 _ _ t306 _ _ t309 _ _ t285 _ _ t288 false _ ?side1 ?side2 ?side3 ?side4 ?side5 ?side6 ?side7 ?side8 A50.out).mono ?_); (case side1 => refine (Kd.R_reads' (e := 3) (base := w.heap.size) (ok := fun k_ => ((True ∧ some k_ ≠ (.slice Ao7 t285.length co7 : Value).ownBlock) ∧ some k_ ≠ (.slice Ao12 t293.length co12 : Value).ownBlock)) (n := t306.length) (c := co45) ?_).2.2; exact (by (with_reducible repeat (first | apply Kd.R_alloc | apply Kd.R_drewN | apply Kd.R_drew)); exact (Kd.R_mono (Kd.R_far (p := ⟨gb313, 1, none⟩) (Kd.R_far (p := ⟨gb313, 0, none⟩) (Kd.R_types HO308.out BK313.out (by decide)) (fun _ hk => hk.2) (.slice Ao45 t306.length co45)) (fun _ hk => hk.2) (.slice Ao49 t309.length co49)) (fun _ h_ => h_.1)))); (case side2 => exact (Kd.R_reads' HO308.out).2.1); (case side3 => refine (Kd.R_reads' (e := 67) (base := w.heap.size) (ok := fun k_ => ((True ∧ some k_ ≠ (.slice Ao9 t288.length co9 : Value).ownBlock) ∧ some k_ ≠ (.slice Ao15 t296.length co15 : Value).ownBlock)) (n := t309.length) (c := co49) ?_).2.2; exact (by (with_reducible repeat (first | apply Kd.R_alloc | apply Kd.R_drewN | apply Kd.R_drew)); exact (Kd.R_mono (Kd.R_far (p := ⟨gb313, 1, none⟩) (Kd.R_far (p := ⟨gb313, 0, none⟩) (Kd.R_types HO311.out BK313.out (by decide)) (fun _ hk => hk.2) (.slice Ao45 t306.length co45)) (fun _ hk => hk.2) (.slice Ao49 t309.length co49)) (fun _ h_ => h_.1)))); (case side4 => exact (Kd.R_reads' HO311.out).2.1); (case side5 => refine (Kd.R_reads' (e := 3) (base := w.heap.size) (ok := fun k_ => (some k_ ≠ (.slice Ao12 t293.length co12 : Value).ownBlock ∧ some k_ ≠ (.slice Ao45 t306.length co45 : Value).ownBlock)) (n := t285.length) (c := co7) ?_).2.2; exact (by (with_reducible repeat (first | apply Kd.R_alloc | apply Kd.R_drewN | apply Kd.R_drew)); exact (Kd.R_mono (Kd.R_far (p := ⟨gb313, 1, none⟩) (Kd.R_far (p := ⟨gb313, 0, none⟩) (Kd.R_types HO_293000.out BK313.out (by decide)) (fun _ hk => hk.2) (.slice Ao45 t306.length co45)) (fun _ hk => hk.2) (.slice Ao49 t309.length co49)) (fun _ h_ => h_.1)))); (case side6 => exact (Kd.R_reads' HO_293000.out).2.1); (case side7 => refine (Kd.R_reads' (e := 67) (base := w.heap.size) (ok := fun k_ => (some k_ ≠ (.slice Ao15 t296.length co15 : Value).ownBlock ∧ some k_ ≠ (.slice Ao49 t309.length co49 : Value).ownBlock)) (n := t288.length) (c := co9) ?_).2.2; exact (by (with_reducible repeat (first | apply Kd.R_alloc | apply Kd.R_drewN | apply Kd.R_drew)); exact (Kd.R_mono (Kd.R_far (p := ⟨gb313, 1, none⟩) (Kd.R_far (p := ⟨gb313, 0, none⟩) (Kd.R_types HO_293001.out BK313.out (by decide)) (fun _ hk => hk.2) (.slice Ao45 t306.length co45)) (fun _ hk => hk.2) (.slice Ao49 t309.length co49)) (fun _ h_ => h_.1)))); (case side8 => exact (Kd.R_reads' HO_293001.out).2.1); rintro e w63 ⟨rfl, hb⟩; refine ⟨_, rfl, ?_⟩; have n0_ := Aside0.mk (Kd.R_below (by (with_reducible repeat (first | apply Kd.R_alloc | apply Kd.R_drewN | apply Kd.R_drew)); exact (Kd.R_mono (Kd.R_far (p := ⟨gb313, 1, none⟩) (Kd.R_far (p := ⟨gb313, 0, none⟩) (Kd.R_types HO_293000.out BK313.out (by decide)) (fun _ hk => hk.2) (.slice Ao45 t306.length co45)) (fun _ hk => hk.2) (.slice Ao49 t309.length co49)) (fun _ h_ => h_.1))) hb); have n1_ := Aside0.mk (Kd.R_below (by (with_reducible repeat (first | apply Kd.R_alloc | apply Kd.R_drewN | apply Kd.R_drew)); exact (Kd.R_mono (Kd.R_far (p := ⟨gb313, 1, none⟩) (Kd.R_far (p := ⟨gb313, 0, none⟩) (Kd.R_types HO_293001.out BK313.out (by decide)) (fun _ hk => hk.2) (.slice Ao45 t306.length co45)) (fun _ hk => hk.2) (.slice Ao49 t309.length co49)) (fun _ h_ => h_.1))) hb); have n2_ := Aside0.mk (Kd.R_below (by (with_reducible repeat (first | apply Kd.R_alloc | apply Kd.R_drewN | apply Kd.R_drew)); exact (Kd.R_mono (Kd.R_far (p := ⟨gb313, 1, none⟩) (Kd.R_far (p := ⟨gb313, 0, none⟩) (Kd.R_types HO_301000.out BK313.out (by decide)) (fun _ hk => hk.2) (.slice Ao45 t306.length co45)) (fun _ hk => hk.2) (.slice Ao49 t309.length co49)) (fun _ h_ => h_.1))) hb); have n3_ := Aside0.mk (Kd.R_below (by (with_reducible repeat (first | apply Kd.R_alloc | apply Kd.R_drewN | apply Kd.R_drew)); exact (Kd.R_mono (Kd.R_far (p := ⟨gb313, 1, none⟩) (Kd.R_far (p := ⟨gb313, 0, none⟩) (Kd.R_types HO_301001.out BK313.out (by decide)) (fun _ hk => hk.2) (.slice Ao45 t306.length co45)) (fun _ hk => hk.2) (.slice Ao49 t309.length co49)) (fun _ h_ => h_.1))) hb); have n4_ := Aside0.mk (Kd.R_below (by (with_reducible repeat (first | apply Kd.R_alloc | apply Kd.R_drewN | apply Kd.R_drew)); exact (Kd.R_mono (Kd.R_far (p := ⟨gb313, 1, none⟩) (Kd.R_far (p := ⟨gb313, 0, none⟩) (Kd.R_types HO308.out BK313.out (by decide)) (fun _ hk => hk.2) (.slice Ao45 t306.length co45)) (fun _ hk => hk.2) (.slice Ao49 t309.length co49)) (fun _ h_ => h_.1))) hb); have n5_ := Aside0.mk (Kd.R_below (by (with_reducible repeat (first | apply Kd.R_alloc | apply Kd.R_drewN | apply Kd.R_drew)); exact (Kd.R_mono (Kd.R_far (p := ⟨gb313, 1, none⟩) (Kd.R_far (p := ⟨gb313, 0, none⟩) (Kd.R_types HO311.out BK313.out (by decide)) (fun _ hk => hk.2) (.slice Ao45 t306.length co45)) (fun _ hk => hk.2) (.slice Ao49 t309.length co49)) (fun _ h_ => h_.1))) hb); have n6_ := Aside0.mk (blk_below (g := gb292) (o := .cells #[.slice Ao7 t285.length co7, .slice Ao9 t288.length co9] 34 (0, 0)) (by (with_reducible repeat (first | refine blk_drewN ?_ _ | refine blk_drew ?_ | refine blk_alloc ?_ _)); refine blk_far ?_ NB292_313.out _; (with_reducible repeat (first | refine blk_drewN ?_ _ | refine blk_drew ?_ | refine blk_alloc ?_ _)); refine blk_far ?_ NB292_313.out _; (with_reducible repeat (first | refine blk_drewN ?_ _ | refine blk_drew ?_ | refine blk_alloc ?_ _)); exact BK292.out) hb); have n7_ := Aside0.mk (blk_below (g := gb300) (o := .cells #[.slice Ao12 t293.length co12, .slice Ao15 t296.length co15] 34 (0, 0)) (by (with_reducible repeat (first | refine blk_drewN ?_ _ | refine blk_drew ?_ | refine blk_alloc ?_ _)); refine blk_far ?_ NB300_313.out _; (with_reducible repeat (first | refine blk_drewN ?_ _ | refine blk_drew ?_ | refine blk_alloc ?_ _)); refine blk_far ?_ NB300_313.out _; (with_reducible repeat (first | refine blk_drewN ?_ _ | refine blk_drew ?_ | refine blk_alloc ?_ _)); exact BK300.out) hb); have n8_ := Aside0.mk (blk_below (g := gb313) (o := .cells #[.slice Ao45 t306.length co45, .slice Ao49 t309.length co49] 34 (0, 0)) (by (with_reducible repeat (first | refine blk_drewN ?_ _ | refine blk_drew ?_ | refine blk_alloc ?_ _)); refine blk_put (cs := #[.slice Ao45 t306.length co45, .slice none 0 0]) ?_ 1 _ rfl; (with_reducible repeat (first | refine blk_drewN ?_ _ | refine blk_drew ?_ | refine blk_alloc ?_ _)); refine blk_put (cs := #[.slice none 0 0, .slice none 0 0]) ?_ 0 _ rfl; (with_reducible repeat (first | refine blk_drewN ?_ _ | refine blk_drew ?_ | refine blk_alloc ?_ _)); exact BK313.out) hb); have n9_ := Aside0.mk (below_step (by repeat (first | (with_reducible first | exact HB.out | apply below_alloc | apply pw_below_drewN | apply below_drew1 | refine below_set ?_ GE292.out | refine below_set ?_ GE300.out | refine below_set ?_ GE313.out) | exact HB.out)) hb); clear HO_293000; clear HO_293001; clear HO_301000; clear HO_301001; clear HO308; clear HO311; clear BK292; clear BK300; clear BK313; clear HB; have HO_293000 := n0_; have HO_293001 := n1_; have HO_301000 := n2_; have HO_301001 := n3_; have HO308 := n4_; have HO311 := n5_; have BK292 := n6_; have BK300 := n7_; have BK313 := n8_; have HB := n9_; clear n0_ n1_ n2_ n3_ n4_ n5_ n6_ n7_ n8_ n9_; (try clear hb); (try clear hb2); (try clear hk); (try clear hi)))
                go_meet
                case rel => exact ⟨_, (true), (by first | rfl | (simp; done) | (simp [*]; done)), H', ⟨by have := HJ3.out; first | omega | exact Nat.le_refl _⟩, ⟨by (with_reducible repeat (first | apply Kd.R_alloc | apply Kd.R_drewN | apply Kd.R_drew)); exact HO_293000.out⟩, ⟨by (with_reducible repeat (first | apply Kd.R_alloc | apply Kd.R_drewN | apply Kd.R_drew)); exact HO_293001.out⟩, ⟨by (with_reducible repeat (first | apply Kd.R_alloc | apply Kd.R_drewN | apply Kd.R_drew)); exact HO_301000.out⟩, ⟨by (with_reducible repeat (first | apply Kd.R_alloc | apply Kd.R_drewN | apply Kd.R_drew)); exact HO_301001.out⟩, ⟨by (with_reducible repeat (first | apply Kd.R_alloc | apply Kd.R_drewN | apply Kd.R_drew)); exact Kd.R_mono HO308.out (fun _ hk => ⟨hk.1.2, hk.2⟩)⟩, ⟨by (with_reducible repeat (first | apply Kd.R_alloc | apply Kd.R_drewN | apply Kd.R_drew)); exact Kd.R_mono HO311.out (fun _ hk => ⟨hk.1.2, hk.2⟩)⟩, ⟨by (with_reducible repeat (first | refine blk_drewN ?_ _ | refine blk_drew ?_ | refine blk_alloc ?_ _)); exact BK292.out⟩, ⟨by (with_reducible repeat (first | refine blk_drewN ?_ _ | refine blk_drew ?_ | refine blk_alloc ?_ _)); exact BK300.out⟩, ⟨by (with_reducible repeat (first | refine blk_drewN ?_ _ | refine blk_drew ?_ | refine blk_alloc ?_ _)); exact BK313.out⟩, ⟨by repeat (first | (with_reducible first | exact HB.out | apply below_alloc | apply pw_below_drewN | apply below_drew1 | refine below_set ?_ GE292.out | refine below_set ?_ GE300.out | refine below_set ?_ GE313.out) | exact HB.out)⟩⟩
            case rest =>
              clear HC37
              try clear c1
              try clear c2
              try clear p2
              try clear c3
              try clear c4
              try clear c5
              try clear c6
              try clear c13
              try clear c17
              try clear c18
              try clear c22
              try clear c23
              try clear c24
              try clear c25
              try clear c26
              try clear c27
              try clear c29
              try clear c29b0
              try clear c30
              try clear c35
              try clear c35b0
              try clear c35b1
              try clear c38
              try clear c46
              try clear c47
              try clear c51
              try clear c52
              try clear c53
              try clear c55
              try clear c58
              try clear c59
              try clear c61
              try clear hcz14_0
              try clear hcz14_1
              try clear hcz19_0
              try clear hcz19_1
              try clear hcz20_0
              try clear hcz20_1
              try clear hcz23_0
              try clear hcz23_1
              try clear hcz24_0
              try clear hcz24_1
              try clear hcz31_0
              try clear hcz31_1
              try clear hcz33_0
              try clear hcz33_1
              try clear hcz39_0
              try clear hcz39_1
              try clear hcz41_0
              try clear hcz41_1
              try clear hcz48_0
              try clear hcz48_1
              try clear hcz54_0
              try clear hcz54_1
              try clear hcz56_0
              try clear hcz56_1
              try clear hcz60_0
              try clear hcz60_1
              try clear hcz62_0
              try clear hcz62_1
              try clear hcz8_0
              try clear hcz8_1
              try clear hfz14_0
              try clear hfz14_1
              try clear hfz19_0
              try clear hfz19_1
              try clear hfz20_0
              try clear hfz20_1
              try clear hfz23_0
              try clear hfz23_1
              try clear hfz24_0
              try clear hfz24_1
              try clear hfz31_0
              try clear hfz31_1
              try clear hfz33_0
              try clear hfz33_1
              try clear hfz39_0
              try clear hfz39_1
              try clear hfz41_0
              try clear hfz41_1
              try clear hfz48_0
              try clear hfz48_1
              try clear hfz54_0
              try clear hfz54_1
              try clear hfz56_0
              try clear hfz56_1
              try clear hfz60_0
              try clear hfz60_1
              try clear hfz62_0
              try clear hfz62_1
              try clear hfz8_0
              try clear hfz8_1
              try clear p2
              obtain ⟨kq, x54_36, rfl, HA, HJ36, HO_293000, HO_293001, HO_301000, HO_301001, HO_314000, HO_314001, BK292, BK300, BK313, HB⟩ := hcut
              have hl301000_36 := (Kd.R_reads' HO_301000.out).1
              rw [hl301000_36] at HO_301000
              (try simp only [hl301000_36])
              (try simp only [hl301000_36] at BK292)
              (try simp only [hl301000_36] at BK300)
              (try simp only [hl301000_36] at BK313)
              (try simp only [hl301000_36] at HO_293000)
              (try simp only [hl301000_36] at HO_293001)
              (try simp only [hl301000_36] at HO_301001)
              (try simp only [hl301000_36] at HO_314000)
              (try simp only [hl301000_36] at HO_314001)
              have hl301001_36 := (Kd.R_reads' HO_301001.out).1
              rw [hl301001_36] at HO_301001
              (try simp only [hl301001_36])
              (try simp only [hl301001_36] at BK292)
              (try simp only [hl301001_36] at BK300)
              (try simp only [hl301001_36] at BK313)
              (try simp only [hl301001_36] at HO_293000)
              (try simp only [hl301001_36] at HO_293001)
              (try simp only [hl301001_36] at HO_301000)
              (try simp only [hl301001_36] at HO_314000)
              (try simp only [hl301001_36] at HO_314001)
              cases kq with
              | zero => exact absurd HA.out (by simp [laws_FnExactBarBolts.j1])
              | succ kj36 =>
                have H := HA.out
                clear HA
                simp only [laws_FnExactBarBolts.j1] at H
                by_cases c64 : x54_36 = true
                · subst c64
                  have H1 : (some false) = some r := by rw [if_pos rfl] at H; exact H
                  clear H
                  have H := H1
                  clear H1
                  obtain rfl := Option.some.inj H
                  go_wp2
                  go_ret
                  exact ⟨by first | rfl | (simp [errW_none, errW_some] <;> rfl) | (simp [*, errW_none, errW_some] <;> rfl), by repeat (first | (with_reducible first | exact HB.out | apply below_alloc | apply pw_below_drewN | apply below_drew1 | refine below_set ?_ GE292.out | refine below_set ?_ GE300.out | refine below_set ?_ GE313.out) | exact HB.out)⟩
                · replace c64 := Bool.eq_false_iff.mpr c64
                  subst c64
                  have H1 : ((laws_heldBolts.f kj36 t303 t304 1).bind fun t315 => (if t315 < 0 then (some false) else (if t315 = t302 then (some true) else (some false)))) = some r := by rw [if_neg (show ¬ (false = true) by decide)] at H; exact H
                  clear H
                  have H := H1
                  clear H1
                  replace H := Option.bind_eq_some_iff.mp H
                  obtain ⟨t315, A650, H⟩ := H
                  replace H : (if t315 < 0 then (some false) else (if t315 = t302 then (some true) else (some false))) = some r := H
                  have A65 := Aside0.mk A650
                  clear A650
                  by_cases c66 : t315 < 0
                  · rw [if_pos c66] at H
                    have c66b0 : decide (t315 < 0) = true := decide_eq_true c66
                    clear c66
                    obtain rfl := Option.some.inj H
                    have hnb67 := NB300_292.out
                    have hnc67 := NB292_300.out
                    have hnb68 := NB300_313.out
                    have hnc68 := NB313_300.out
                    have hcz69_0 : wc.cell? ⟨gb300, 0, none⟩ = some (.slice Ao12 t303.length co12) := (blk_cell BK300.out 0).trans rfl
                    have hcz69_1 : wc.cell? ⟨gb300, 1, none⟩ = some (.slice Ao15 t304.length co15) := (blk_cell BK300.out 1).trans rfl
                    have hfz69_0 := blk_frozen BK300.out 0
                    have hfz69_1 := blk_frozen BK300.out 1
                    go_wp2_with (first | ((with_reducible refine gate_callee (f := 27) rfl ?_); refine goesL_ (some 57) rfl rfl Try.func27 (by kernel_rfl) rfl #[.agg #[.slice Ao12 t303.length co12, .slice Ao15 t304.length co15], .int .i64 1] rfl (by (try simp only [List.map_toArray, List.map_cons, List.map_nil]); first | done | rfl | (simp only [List.length_drop, List.length_take]; rfl)) ?_; (with_reducible refine (laws_heldBolts.calls kj36 _ _ t303 _ _ t304 1 t315 _ ?side1 ?side2 ?side3 ?side4 A65.out).mono ?_); (case side1 => repeat (first | exact (Kd.R_reads' HO_301000.out).2.2 | (with_reducible refine Kd.C_alloc ?_ _) | (with_reducible refine Kd.C_drewN ?_ _) | (with_reducible refine Kd.C_drew ?_))); (case side2 => exact (Kd.R_reads' HO_301000.out).2.1); (case side3 => repeat (first | exact (Kd.R_reads' HO_301001.out).2.2 | (with_reducible refine Kd.C_alloc ?_ _) | (with_reducible refine Kd.C_drewN ?_ _) | (with_reducible refine Kd.C_drew ?_))); (case side4 => exact (Kd.R_reads' HO_301001.out).2.1); rintro e w70 ⟨rfl, hb⟩; refine ⟨_, rfl, ?_⟩; have n0_ := Aside0.mk (Kd.R_below (by (with_reducible repeat (first | apply Kd.R_alloc | apply Kd.R_drewN | apply Kd.R_drew)); exact HO_293000.out) hb); have n1_ := Aside0.mk (Kd.R_below (by (with_reducible repeat (first | apply Kd.R_alloc | apply Kd.R_drewN | apply Kd.R_drew)); exact HO_293001.out) hb); have n2_ := Aside0.mk (Kd.R_below (by (with_reducible repeat (first | apply Kd.R_alloc | apply Kd.R_drewN | apply Kd.R_drew)); exact HO_301000.out) hb); have n3_ := Aside0.mk (Kd.R_below (by (with_reducible repeat (first | apply Kd.R_alloc | apply Kd.R_drewN | apply Kd.R_drew)); exact HO_301001.out) hb); have n4_ := Aside0.mk (Kd.R_below (by (with_reducible repeat (first | apply Kd.R_alloc | apply Kd.R_drewN | apply Kd.R_drew)); exact HO_314000.out) hb); have n5_ := Aside0.mk (Kd.R_below (by (with_reducible repeat (first | apply Kd.R_alloc | apply Kd.R_drewN | apply Kd.R_drew)); exact HO_314001.out) hb); have n6_ := Aside0.mk (blk_below (g := gb292) (o := .cells #[.slice Ao7 t285.length co7, .slice Ao9 t288.length co9] 34 (0, 0)) (by (with_reducible repeat (first | refine blk_drewN ?_ _ | refine blk_drew ?_ | refine blk_alloc ?_ _)); exact BK292.out) hb); have n7_ := Aside0.mk (blk_below (g := gb300) (o := .cells #[.slice Ao12 t303.length co12, .slice Ao15 t304.length co15] 34 (0, 0)) (by (with_reducible repeat (first | refine blk_drewN ?_ _ | refine blk_drew ?_ | refine blk_alloc ?_ _)); exact BK300.out) hb); have n8_ := Aside0.mk (blk_below (g := gb313) (o := .cells #[.slice Ao45 t306.length co45, .slice Ao49 t309.length co49] 34 (0, 0)) (by (with_reducible repeat (first | refine blk_drewN ?_ _ | refine blk_drew ?_ | refine blk_alloc ?_ _)); exact BK313.out) hb); have n9_ := Aside0.mk (below_step (by repeat (first | (with_reducible first | exact HB.out | apply below_alloc | apply pw_below_drewN | apply below_drew1 | refine below_set ?_ GE292.out | refine below_set ?_ GE300.out | refine below_set ?_ GE313.out) | exact HB.out)) hb); clear HO_293000; clear HO_293001; clear HO_301000; clear HO_301001; clear HO_314000; clear HO_314001; clear BK292; clear BK300; clear BK313; clear HB; have HO_293000 := n0_; have HO_293001 := n1_; have HO_301000 := n2_; have HO_301001 := n3_; have HO_314000 := n4_; have HO_314001 := n5_; have BK292 := n6_; have BK300 := n7_; have BK313 := n8_; have HB := n9_; clear n0_ n1_ n2_ n3_ n4_ n5_ n6_ n7_ n8_ n9_; (try clear hb); (try clear hb2); (try clear hk); (try clear hi)))
                    go_ret
                    exact ⟨by first | rfl | (simp [errW_none, errW_some] <;> rfl) | (simp [*, errW_none, errW_some] <;> rfl), by repeat (first | (with_reducible first | exact HB.out | apply below_alloc | apply pw_below_drewN | apply below_drew1 | refine below_set ?_ GE292.out | refine below_set ?_ GE300.out | refine below_set ?_ GE313.out) | exact HB.out)⟩
                  · rw [if_neg c66] at H
                    have c66b0 : decide (t315 < 0) = false := decide_eq_false c66
                    clear c66
                    by_cases c71 : t315 = t302
                    · rw [if_pos c71] at H
                      have c71b0 : (t315 == t302) = true := beq_iff_eq.mpr c71
                      have c71b1 : (t315 != t302) = false := bne_eq_false_iff_eq.mpr c71
                      clear c71
                      obtain rfl := Option.some.inj H
                      have hnb72 := NB300_292.out
                      have hnc72 := NB292_300.out
                      have hnb73 := NB300_313.out
                      have hnc73 := NB313_300.out
                      have hcz74_0 : wc.cell? ⟨gb300, 0, none⟩ = some (.slice Ao12 t303.length co12) := (blk_cell BK300.out 0).trans rfl
                      have hcz74_1 : wc.cell? ⟨gb300, 1, none⟩ = some (.slice Ao15 t304.length co15) := (blk_cell BK300.out 1).trans rfl
                      have hfz74_0 := blk_frozen BK300.out 0
                      have hfz74_1 := blk_frozen BK300.out 1
                      go_wp2_with (first | ((with_reducible refine gate_callee (f := 27) rfl ?_); refine goesL_ (some 57) rfl rfl Try.func27 (by kernel_rfl) rfl #[.agg #[.slice Ao12 t303.length co12, .slice Ao15 t304.length co15], .int .i64 1] rfl (by (try simp only [List.map_toArray, List.map_cons, List.map_nil]); first | done | rfl | (simp only [List.length_drop, List.length_take]; rfl)) ?_; (with_reducible refine (laws_heldBolts.calls kj36 _ _ t303 _ _ t304 1 t315 _ ?side1 ?side2 ?side3 ?side4 A65.out).mono ?_); (case side1 => repeat (first | exact (Kd.R_reads' HO_301000.out).2.2 | (with_reducible refine Kd.C_alloc ?_ _) | (with_reducible refine Kd.C_drewN ?_ _) | (with_reducible refine Kd.C_drew ?_))); (case side2 => exact (Kd.R_reads' HO_301000.out).2.1); (case side3 => repeat (first | exact (Kd.R_reads' HO_301001.out).2.2 | (with_reducible refine Kd.C_alloc ?_ _) | (with_reducible refine Kd.C_drewN ?_ _) | (with_reducible refine Kd.C_drew ?_))); (case side4 => exact (Kd.R_reads' HO_301001.out).2.1); rintro e w75 ⟨rfl, hb⟩; refine ⟨_, rfl, ?_⟩; have n0_ := Aside0.mk (Kd.R_below (by (with_reducible repeat (first | apply Kd.R_alloc | apply Kd.R_drewN | apply Kd.R_drew)); exact HO_293000.out) hb); have n1_ := Aside0.mk (Kd.R_below (by (with_reducible repeat (first | apply Kd.R_alloc | apply Kd.R_drewN | apply Kd.R_drew)); exact HO_293001.out) hb); have n2_ := Aside0.mk (Kd.R_below (by (with_reducible repeat (first | apply Kd.R_alloc | apply Kd.R_drewN | apply Kd.R_drew)); exact HO_301000.out) hb); have n3_ := Aside0.mk (Kd.R_below (by (with_reducible repeat (first | apply Kd.R_alloc | apply Kd.R_drewN | apply Kd.R_drew)); exact HO_301001.out) hb); have n4_ := Aside0.mk (Kd.R_below (by (with_reducible repeat (first | apply Kd.R_alloc | apply Kd.R_drewN | apply Kd.R_drew)); exact HO_314000.out) hb); have n5_ := Aside0.mk (Kd.R_below (by (with_reducible repeat (first | apply Kd.R_alloc | apply Kd.R_drewN | apply Kd.R_drew)); exact HO_314001.out) hb); have n6_ := Aside0.mk (blk_below (g := gb292) (o := .cells #[.slice Ao7 t285.length co7, .slice Ao9 t288.length co9] 34 (0, 0)) (by (with_reducible repeat (first | refine blk_drewN ?_ _ | refine blk_drew ?_ | refine blk_alloc ?_ _)); exact BK292.out) hb); have n7_ := Aside0.mk (blk_below (g := gb300) (o := .cells #[.slice Ao12 t303.length co12, .slice Ao15 t304.length co15] 34 (0, 0)) (by (with_reducible repeat (first | refine blk_drewN ?_ _ | refine blk_drew ?_ | refine blk_alloc ?_ _)); exact BK300.out) hb); have n8_ := Aside0.mk (blk_below (g := gb313) (o := .cells #[.slice Ao45 t306.length co45, .slice Ao49 t309.length co49] 34 (0, 0)) (by (with_reducible repeat (first | refine blk_drewN ?_ _ | refine blk_drew ?_ | refine blk_alloc ?_ _)); exact BK313.out) hb); have n9_ := Aside0.mk (below_step (by repeat (first | (with_reducible first | exact HB.out | apply below_alloc | apply pw_below_drewN | apply below_drew1 | refine below_set ?_ GE292.out | refine below_set ?_ GE300.out | refine below_set ?_ GE313.out) | exact HB.out)) hb); clear HO_293000; clear HO_293001; clear HO_301000; clear HO_301001; clear HO_314000; clear HO_314001; clear BK292; clear BK300; clear BK313; clear HB; have HO_293000 := n0_; have HO_293001 := n1_; have HO_301000 := n2_; have HO_301001 := n3_; have HO_314000 := n4_; have HO_314001 := n5_; have BK292 := n6_; have BK300 := n7_; have BK313 := n8_; have HB := n9_; clear n0_ n1_ n2_ n3_ n4_ n5_ n6_ n7_ n8_ n9_; (try clear hb); (try clear hb2); (try clear hk); (try clear hi)))
                      go_ret
                      exact ⟨by first | rfl | (simp [errW_none, errW_some] <;> rfl) | (simp [*, errW_none, errW_some] <;> rfl), by repeat (first | (with_reducible first | exact HB.out | apply below_alloc | apply pw_below_drewN | apply below_drew1 | refine below_set ?_ GE292.out | refine below_set ?_ GE300.out | refine below_set ?_ GE313.out) | exact HB.out)⟩
                    · rw [if_neg c71] at H
                      have c71b0 : (t315 == t302) = false := beq_eq_false_iff_ne.mpr c71
                      have c71b1 : (t315 != t302) = true := bne_iff_ne.mpr c71
                      obtain rfl := Option.some.inj H
                      have hnb76 := NB300_292.out
                      have hnc76 := NB292_300.out
                      have hnb77 := NB300_313.out
                      have hnc77 := NB313_300.out
                      have hcz78_0 : wc.cell? ⟨gb300, 0, none⟩ = some (.slice Ao12 t303.length co12) := (blk_cell BK300.out 0).trans rfl
                      have hcz78_1 : wc.cell? ⟨gb300, 1, none⟩ = some (.slice Ao15 t304.length co15) := (blk_cell BK300.out 1).trans rfl
                      have hfz78_0 := blk_frozen BK300.out 0
                      have hfz78_1 := blk_frozen BK300.out 1
                      go_wp2_with (first | ((with_reducible refine gate_callee (f := 27) rfl ?_); refine goesL_ (some 57) rfl rfl Try.func27 (by kernel_rfl) rfl #[.agg #[.slice Ao12 t303.length co12, .slice Ao15 t304.length co15], .int .i64 1] rfl (by (try simp only [List.map_toArray, List.map_cons, List.map_nil]); first | done | rfl | (simp only [List.length_drop, List.length_take]; rfl)) ?_; (with_reducible refine (laws_heldBolts.calls kj36 _ _ t303 _ _ t304 1 t315 _ ?side1 ?side2 ?side3 ?side4 A65.out).mono ?_); (case side1 => repeat (first | exact (Kd.R_reads' HO_301000.out).2.2 | (with_reducible refine Kd.C_alloc ?_ _) | (with_reducible refine Kd.C_drewN ?_ _) | (with_reducible refine Kd.C_drew ?_))); (case side2 => exact (Kd.R_reads' HO_301000.out).2.1); (case side3 => repeat (first | exact (Kd.R_reads' HO_301001.out).2.2 | (with_reducible refine Kd.C_alloc ?_ _) | (with_reducible refine Kd.C_drewN ?_ _) | (with_reducible refine Kd.C_drew ?_))); (case side4 => exact (Kd.R_reads' HO_301001.out).2.1); rintro e w79 ⟨rfl, hb⟩; refine ⟨_, rfl, ?_⟩; have n0_ := Aside0.mk (Kd.R_below (by (with_reducible repeat (first | apply Kd.R_alloc | apply Kd.R_drewN | apply Kd.R_drew)); exact HO_293000.out) hb); have n1_ := Aside0.mk (Kd.R_below (by (with_reducible repeat (first | apply Kd.R_alloc | apply Kd.R_drewN | apply Kd.R_drew)); exact HO_293001.out) hb); have n2_ := Aside0.mk (Kd.R_below (by (with_reducible repeat (first | apply Kd.R_alloc | apply Kd.R_drewN | apply Kd.R_drew)); exact HO_301000.out) hb); have n3_ := Aside0.mk (Kd.R_below (by (with_reducible repeat (first | apply Kd.R_alloc | apply Kd.R_drewN | apply Kd.R_drew)); exact HO_301001.out) hb); have n4_ := Aside0.mk (Kd.R_below (by (with_reducible repeat (first | apply Kd.R_alloc | apply Kd.R_drewN | apply Kd.R_drew)); exact HO_314000.out) hb); have n5_ := Aside0.mk (Kd.R_below (by (with_reducible repeat (first | apply Kd.R_alloc | apply Kd.R_drewN | apply Kd.R_drew)); exact HO_314001.out) hb); have n6_ := Aside0.mk (blk_below (g := gb292) (o := .cells #[.slice Ao7 t285.length co7, .slice Ao9 t288.length co9] 34 (0, 0)) (by (with_reducible repeat (first | refine blk_drewN ?_ _ | refine blk_drew ?_ | refine blk_alloc ?_ _)); exact BK292.out) hb); have n7_ := Aside0.mk (blk_below (g := gb300) (o := .cells #[.slice Ao12 t303.length co12, .slice Ao15 t304.length co15] 34 (0, 0)) (by (with_reducible repeat (first | refine blk_drewN ?_ _ | refine blk_drew ?_ | refine blk_alloc ?_ _)); exact BK300.out) hb); have n8_ := Aside0.mk (blk_below (g := gb313) (o := .cells #[.slice Ao45 t306.length co45, .slice Ao49 t309.length co49] 34 (0, 0)) (by (with_reducible repeat (first | refine blk_drewN ?_ _ | refine blk_drew ?_ | refine blk_alloc ?_ _)); exact BK313.out) hb); have n9_ := Aside0.mk (below_step (by repeat (first | (with_reducible first | exact HB.out | apply below_alloc | apply pw_below_drewN | apply below_drew1 | refine below_set ?_ GE292.out | refine below_set ?_ GE300.out | refine below_set ?_ GE313.out) | exact HB.out)) hb); clear HO_293000; clear HO_293001; clear HO_301000; clear HO_301001; clear HO_314000; clear HO_314001; clear BK292; clear BK300; clear BK313; clear HB; have HO_293000 := n0_; have HO_293001 := n1_; have HO_301000 := n2_; have HO_301001 := n3_; have HO_314000 := n4_; have HO_314001 := n5_; have BK292 := n6_; have BK300 := n7_; have BK313 := n8_; have HB := n9_; clear n0_ n1_ n2_ n3_ n4_ n5_ n6_ n7_ n8_ n9_; (try clear hb); (try clear hb2); (try clear hk); (try clear hi)))
                      go_ret
                      exact ⟨by first | rfl | (simp [errW_none, errW_some] <;> rfl) | (simp [*, errW_none, errW_some] <;> rfl), by repeat (first | (with_reducible first | exact HB.out | apply below_alloc | apply pw_below_drewN | apply below_drew1 | refine below_set ?_ GE292.out | refine below_set ?_ GE300.out | refine below_set ?_ GE313.out) | exact HB.out)⟩
          · rw [if_neg c35] at H
            have c35b0 : (t305 == t302) = false := beq_eq_false_iff_ne.mpr c35
            have c35b1 : (t305 != t302) = true := bne_iff_ne.mpr c35
            obtain rfl := Option.some.inj H
            have hnb80 := NB300_292.out
            have hnc80 := NB292_300.out
            have hcz81_0 : wc.cell? ⟨gb300, 0, none⟩ = some (.slice Ao12 t293.length co12) := (blk_cell BK300.out 0).trans rfl
            have hcz81_1 : wc.cell? ⟨gb300, 1, none⟩ = some (.slice Ao15 t296.length co15) := (blk_cell BK300.out 1).trans rfl
            have hfz81_0 := blk_frozen BK300.out 0
            have hfz81_1 := blk_frozen BK300.out 1
            go_wp2_with (first | ((with_reducible refine gate_callee (f := 26) rfl ?_); refine goesL_ (some 32) rfl rfl Try.func26 (by kernel_rfl) rfl #[.agg #[.slice Ao12 t293.length co12, .slice Ao15 t296.length co15], .int .i64 1] rfl (by (try simp only [List.map_toArray, List.map_cons, List.map_nil]); first | done | rfl | (simp only [List.length_drop, List.length_take]; rfl)) ?_; (with_reducible refine (laws_markBolts.calls kj3 (fun k_ => some k_ = (.slice Ao12 t293.length co12 : Value).ownBlock) (.slice Ao12 t293.length co12) t293 (fun k_ => some k_ = (.slice Ao15 t296.length co15 : Value).ownBlock) (.slice Ao15 t296.length co15) t296 1 t302 t303 t304 w _ ?side1 ?side2 ?side3 A27.out).mono ?_); (case side1 => repeat (first | (with_reducible first | exact HB.out | apply below_alloc | apply pw_below_drewN | apply below_drew1 | refine below_set ?_ GE292.out | refine below_set ?_ GE300.out) | exact HB.out)); (case side2 => exact Kd.R_tight rfl HO_301000.out); (case side3 => exact Kd.R_tight rfl HO_301001.out); rintro e w82 ⟨rfl, hy0, hy1, hb, hkp⟩; refine ⟨_, rfl, ?_⟩; have n0_ := Aside0.mk (Kd.R_mono (ok' := fun k_ => some k_ ≠ (.slice Ao12 t293.length co12 : Value).ownBlock) (Kd.R_keptB ((Kd.R_apart' HO_293000.out (Kd.R_typed HO_301001.out) (by decide))) hkp (fun k_ hk_ hs_ => Or.elim hs_ (fun e_ => (hk_.1) e_) (fun e_ => (hk_.2) e_))) (fun k_ hk_ => hk_.1.1)); have n1_ := Aside0.mk (Kd.R_mono (ok' := fun k_ => some k_ ≠ (.slice Ao15 t296.length co15 : Value).ownBlock) (Kd.R_keptB ((Kd.R_apart' HO_293001.out (Kd.R_typed HO_301000.out) (by decide))) hkp (fun k_ hk_ hs_ => Or.elim hs_ (fun e_ => (hk_.2) e_) (fun e_ => (hk_.1) e_))) (fun k_ hk_ => hk_.1.1)); have n2_ := Aside0.mk (Kd.R_reok rfl hy0 (fun k_ e_ => HO_301000.out.1 k_ e_)); have n3_ := Aside0.mk (Kd.R_reok rfl hy1 (fun k_ e_ => HO_301001.out.1 k_ e_)); have n4_ := Aside0.mk (blk_kept (by (with_reducible repeat (first | refine blk_drewN ?_ _ | refine blk_drew ?_ | refine blk_alloc ?_ _)); exact BK292.out) hkp (fun hs_ => Or.elim hs_ (fun e_ => (fun e_ => (Kd.R_ne HO_301000.out BK292.out (by decide)) e_) e_) (fun e_ => (fun e_ => (Kd.R_ne HO_301001.out BK292.out (by decide)) e_) e_))); have n5_ := Aside0.mk (blk_kept (by (with_reducible repeat (first | refine blk_drewN ?_ _ | refine blk_drew ?_ | refine blk_alloc ?_ _)); exact BK300.out) hkp (fun hs_ => Or.elim hs_ (fun e_ => (fun e_ => (Kd.R_ne HO_301000.out BK300.out (by decide)) e_) e_) (fun e_ => (fun e_ => (Kd.R_ne HO_301001.out BK300.out (by decide)) e_) e_))); have n6_ := Aside0.mk (hb); clear HO_293000; clear HO_293001; clear HO_301000; clear HO_301001; clear BK292; clear BK300; clear HB; have HO_293000 := n0_; have HO_293001 := n1_; have HO_301000 := n2_; have HO_301001 := n3_; have BK292 := n4_; have BK300 := n5_; have HB := n6_; clear n0_ n1_ n2_ n3_ n4_ n5_ n6_; (try clear hb); (try clear hkp); (try clear hy0); (try clear hy1); have hcz83_0 : w82.cell? ⟨gb300, 0, none⟩ = some (.slice Ao12 t293.length co12) := (blk_cell BK300.out 0).trans rfl; have hcz83_1 : w82.cell? ⟨gb300, 1, none⟩ = some (.slice Ao15 t296.length co15) := (blk_cell BK300.out 1).trans rfl; have hfz83_0 := blk_frozen BK300.out 0; have hfz83_1 := blk_frozen BK300.out 1) | ((with_reducible refine gate_callee (f := 27) rfl ?_); refine goesL_ (some 35) rfl rfl Try.func27 (by kernel_rfl) rfl #[.agg #[.slice Ao12 t303.length co12, .slice Ao15 t304.length co15], .int .i64 1] rfl (by (try simp only [List.map_toArray, List.map_cons, List.map_nil]); first | done | (rw [show t303.length = t293.length from (Kd.R_reads' HO_301000.out).1.symm, show t304.length = t296.length from (Kd.R_reads' HO_301001.out).1.symm] <;> rfl) | rfl | (simp only [List.length_drop, List.length_take]; rfl)) ?_; (with_reducible refine (laws_heldBolts.calls kj3 _ _ t303 _ _ t304 1 t305 _ ?side1 ?side2 ?side3 ?side4 A28.out).mono ?_); (case side1 => repeat (first | exact (Kd.R_reads' HO_301000.out).2.2 | (with_reducible refine Kd.C_alloc ?_ _) | (with_reducible refine Kd.C_drewN ?_ _) | (with_reducible refine Kd.C_drew ?_))); (case side2 => rw [show t303.length = t293.length from (Kd.R_reads' HO_301000.out).1.symm]; exact (Kd.R_reads' HO_301000.out).2.1); (case side3 => repeat (first | exact (Kd.R_reads' HO_301001.out).2.2 | (with_reducible refine Kd.C_alloc ?_ _) | (with_reducible refine Kd.C_drewN ?_ _) | (with_reducible refine Kd.C_drew ?_))); (case side4 => rw [show t304.length = t296.length from (Kd.R_reads' HO_301001.out).1.symm]; exact (Kd.R_reads' HO_301001.out).2.1); rintro e w84 ⟨rfl, hb⟩; refine ⟨_, rfl, ?_⟩; have n0_ := Aside0.mk (Kd.R_below (by (with_reducible repeat (first | apply Kd.R_alloc | apply Kd.R_drewN | apply Kd.R_drew)); exact HO_293000.out) hb); have n1_ := Aside0.mk (Kd.R_below (by (with_reducible repeat (first | apply Kd.R_alloc | apply Kd.R_drewN | apply Kd.R_drew)); exact HO_293001.out) hb); have n2_ := Aside0.mk (Kd.R_below (by (with_reducible repeat (first | apply Kd.R_alloc | apply Kd.R_drewN | apply Kd.R_drew)); exact HO_301000.out) hb); have n3_ := Aside0.mk (Kd.R_below (by (with_reducible repeat (first | apply Kd.R_alloc | apply Kd.R_drewN | apply Kd.R_drew)); exact HO_301001.out) hb); have n4_ := Aside0.mk (blk_below (g := gb292) (o := .cells #[.slice Ao7 t285.length co7, .slice Ao9 t288.length co9] 34 (0, 0)) (by (with_reducible repeat (first | refine blk_drewN ?_ _ | refine blk_drew ?_ | refine blk_alloc ?_ _)); exact BK292.out) hb); have n5_ := Aside0.mk (blk_below (g := gb300) (o := .cells #[.slice Ao12 t293.length co12, .slice Ao15 t296.length co15] 34 (0, 0)) (by (with_reducible repeat (first | refine blk_drewN ?_ _ | refine blk_drew ?_ | refine blk_alloc ?_ _)); exact BK300.out) hb); have n6_ := Aside0.mk (below_step (by repeat (first | (with_reducible first | exact HB.out | apply below_alloc | apply pw_below_drewN | apply below_drew1 | refine below_set ?_ GE292.out | refine below_set ?_ GE300.out) | exact HB.out)) hb); clear HO_293000; clear HO_293001; clear HO_301000; clear HO_301001; clear BK292; clear BK300; clear HB; have HO_293000 := n0_; have HO_293001 := n1_; have HO_301000 := n2_; have HO_301001 := n3_; have BK292 := n4_; have BK300 := n5_; have HB := n6_; clear n0_ n1_ n2_ n3_ n4_ n5_ n6_; (try clear hb); (try clear hb2); (try clear hk); (try clear hi)))
            go_ret
            exact ⟨by first | rfl | (simp [errW_none, errW_some] <;> rfl) | (simp [*, errW_none, errW_some] <;> rfl), by repeat (first | (with_reducible first | exact HB.out | apply below_alloc | apply pw_below_drewN | apply below_drew1 | refine below_set ?_ GE292.out | refine below_set ?_ GE300.out) | exact HB.out)⟩

/-- THE ONE PURE STATEMENT of laws_FnExactBarBolts: yours. -/
def laws_FnExactBarBolts.Pure : Prop := ∀ (a0 : Int), (Lit.int .i64 a0).wf = true → ∃ k, laws_FnExactBarBolts.f k a0 = some true
theorem laws_FnExactBarBolts.walk (P : laws_FnExactBarBolts.Pure) (a0 : Int) (w : World) (w0 : (Lit.int .i64 a0).wf = true) :
    Calls Try.prog 5 #[.int .i64 a0] w fun e w' => e = .returned (.bool true) ∧ Below w.heap.size w w' := by
  obtain ⟨k, h⟩ := P a0 w0
  refine (laws_FnExactBarBolts.calls k a0 true w h).mono ?_
  rintro e w' ⟨rfl, hd⟩
  exact ⟨rfl, hd⟩

/-! ### spec_keRings: function 81 -/
def spec_keRings.f (a0 : Int) : Option (Bool) := (spec_l1In.f a0 1 10).bind fun t316 => (some t316)
set_option maxHeartbeats 8000000 in
set_option maxRecDepth 100000 in
theorem spec_keRings.calls (a0 : Int) (r : Bool) (w : World) (h : spec_keRings.f a0 = some r) :
    Calls Try.prog 81 #[.int .i64 a0] w fun e w' => e = .returned (.bool r) ∧ Drawn0 w w' := by
  have H : ((spec_l1In.f a0 1 10).bind fun t316 => (some t316)) = some r := h
  clear h
  replace H := Option.bind_eq_some_iff.mp H
  obtain ⟨t316, A20, H⟩ := H
  replace H : (some t316) = some r := H
  have A2 := Aside0.mk A20
  clear A20
  obtain rfl := Option.some.inj H
  go_enter Try.func81, Try.ntmps81
  go_wp2_with (first | ((with_reducible refine gate_callee (f := 57) rfl ?_); refine goesL_ (some 4) rfl rfl Try.func57 (by kernel_rfl) rfl #[.int .i64 a0, .int .i64 1, .int .i64 10] rfl (by (try simp only [List.map_toArray, List.map_cons, List.map_nil]); first | done | rfl | (simp only [List.length_drop, List.length_take]; rfl)) ?_; (with_reducible refine (spec_l1In.calls a0 1 10 t316 _ A2.out).mono ?_); rintro e w' ⟨rfl, ⟨nd, rfl⟩⟩; refine ⟨_, rfl, ?_⟩))
  go_ret
  exact ⟨by first | rfl | (simp; done) | (simp [*]; done), by repeat (first | exact Drawn0.refl _ | apply Drawn0.step)⟩

/-! ### spec_BarKeys: function 40 -/
def spec_BarKeys.l0 : Nat → Int → List ByteArray → Int → Option (List ByteArray × Bool)
  | 0, _, _, _ => none
  | k + 1, x0, x4, x5 => if x5 < x0 then ((spec_riAll.f k (wrap64 (x0 - x5)) (⟨#[63]⟩ : ByteArray)).bind fun t318 => (if x5 > 0 then ((spec_riAll.f k (wrap64 (x5 - 1)) (⟨#[48]⟩ : ByteArray)).bind fun t319 => (if t319.size + 1 ≤ 9223372036854775807 then (if (t319 ++ (⟨#[49]⟩ : ByteArray)).size + t318.size ≤ 9223372036854775807 then (if x4.length < 8796093022208 then (spec_BarKeys.l0 k x0 (x4 ++ [(t319 ++ (⟨#[49]⟩ : ByteArray)) ++ t318]) (wrap64 (x5 + 1))) else (none)) else (none)) else (none))) else (if x4.length < 8796093022208 then (spec_BarKeys.l0 k x0 (x4 ++ [t318]) (wrap64 (x5 + 1))) else (none)))) else (some (x4, true))
def spec_BarKeys.f (k : Nat) (a0 : Int) : Option (List ByteArray × Bool) := (spec_keRings.f a0).bind fun t317 => (if t317 = true then (spec_BarKeys.l0 k a0 ([] : List ByteArray) 0) else (some (([] : List ByteArray), false)))
theorem spec_BarKeys.mono_l : ∀ k, (∀ y0 y1 y2, LeO (spec_BarKeys.l0 k y0 y1 y2) (spec_BarKeys.l0 (k + 1) y0 y1 y2))
  | 0 => fun _ _ _ r h => by simp [spec_BarKeys.l0] at h
  | k + 1 => by
    have ih0 := spec_BarKeys.mono_l k
    · intro y0 y1 y2
      unfold spec_BarKeys.l0
      repeat' first
      | (with_reducible exact ih0 _ _ _)
      | (with_reducible exact spec_riAll.mono _ _ _)
      | (with_reducible exact LeO.refl _)
      | (with_reducible exact LeO.none _)
      | (with_reducible refine LeO.ite ?_ ?_)
      | (with_reducible refine LeO.bind ?_ (fun _ => ?_))
      | exact ih0 _ _ _
      | exact spec_riAll.mono _ _ _
      | exact LeO.none _
      | refine LeO.ite ?_ ?_
      | refine LeO.bind ?_ (fun _ => ?_)
theorem spec_BarKeys.mono : ∀ a0 k, LeO (spec_BarKeys.f k a0) (spec_BarKeys.f (k + 1) a0) := by
  intro a0 k
  have ih0 := spec_BarKeys.mono_l k
  unfold spec_BarKeys.f
  repeat' first
      | (with_reducible exact ih0 _ _ _)
      | (with_reducible exact spec_riAll.mono _ _ _)
      | (with_reducible exact LeO.refl _)
      | (with_reducible exact LeO.none _)
      | (with_reducible refine LeO.ite ?_ ?_)
      | (with_reducible refine LeO.bind ?_ (fun _ => ?_))
      | exact ih0 _ _ _
      | exact spec_riAll.mono _ _ _
      | exact LeO.none _
      | refine LeO.ite ?_ ?_
      | refine LeO.bind ?_ (fun _ => ?_)
set_option maxHeartbeats 8000000 in
set_option maxRecDepth 100000 in
theorem spec_BarKeys.calls (k : Nat) (a0 : Int) (r1 : List ByteArray) (r2 : Bool) (w : World) (h : spec_BarKeys.f k a0 = some (r1, r2)) :
    Calls Try.prog 40 #[.int .i64 a0] w fun e w' => ∃ v0_ : Value, e = .returned (.tuple #[v0_, .bool r2]) ∧ Kd.R Kd.string 9 w' w.heap.size (fun _ => True) v0_ r1 ∧ Below w.heap.size w w' := by
  have HB := Aside0.mk (Below.refl w.heap.size w)
  have H : ((spec_keRings.f a0).bind fun t317 => (if t317 = true then (spec_BarKeys.l0 k a0 ([] : List ByteArray) 0) else (some (([] : List ByteArray), false)))) = some (r1, r2) := h
  clear h
  replace H := Option.bind_eq_some_iff.mp H
  obtain ⟨t317, A20, H⟩ := H
  replace H : (if t317 = true then (spec_BarKeys.l0 k a0 ([] : List ByteArray) 0) else (some (([] : List ByteArray), false))) = some (r1, r2) := H
  have A2 := Aside0.mk A20
  clear A20
  by_cases c3 : t317 = true
  · subst c3
    have H1 : (spec_BarKeys.l0 k a0 ([] : List ByteArray) 0) = some (r1, r2) := by rw [if_pos rfl] at H; exact H
    clear H
    have H := H1
    clear H1
    have H' := Aside0.mk H
    clear H
    go_enter Try.func40, Try.ntmps40
    go_wp2_with (first | ((with_reducible refine gate_callee (f := 81) rfl ?_); refine goesL_ (some 8) rfl rfl Try.func81 (by kernel_rfl) rfl #[.int .i64 a0] rfl (by (try simp only [List.map_toArray, List.map_cons, List.map_nil]); first | done | rfl | (simp only [List.length_drop, List.length_take]; rfl)) ?_; (with_reducible refine (spec_keRings.calls a0 true _ A2.out).mono ?_); rintro e w' ⟨rfl, ⟨nd, rfl⟩⟩; refine ⟨_, rfl, ?_⟩))
    go_loopg [4, 5] k (fun kq v4 v5 w' => ∃ (x4_1 : List ByteArray) (x5_1 : Int), v5 = .int .i64 x5_1 ∧ Aside0 (spec_BarKeys.l0 kq a0 x4_1 x5_1 = some (r1, r2)) ∧ Aside0 (kq ≤ k) ∧ Aside0 (Kd.R Kd.string 9 w' w.heap.size (fun _ => True) v4 x4_1) ∧ Aside0 (Below w.heap.size w w'))
    case atStart => exact ⟨(([] : List ByteArray)), (0), (by first | rfl | (simp; done) | (simp [*]; done)), H', ⟨Nat.le_refl _⟩, ⟨by first | exact Kd.R_nil _ _ _ _ _ | exact Kd.N_nil _ _ _ _ _ | exact Kd.V_nil _ _ _ _ _ | exact Kd.Q_nil _ _ _ _ _ | exact Kd.S_nil _ _ _ _ _⟩, ⟨by repeat (first | (with_reducible first | exact HB.out | apply below_alloc | apply pw_below_drewN | apply below_drew1) | exact HB.out)⟩⟩
    case round =>
      clear H'
      try clear p2
      try clear c3
      obtain ⟨x4_1, x5_1, rfl, HA, HK1, HO_4, HB⟩ := hrel
      cases gk with
      | zero => exact absurd HA.out (by simp [spec_BarKeys.l0])
      | succ k1 =>
        have H := HA.out
        clear HA
        simp only [spec_BarKeys.l0] at H
        by_cases c4 : x5_1 < a0
        · rw [if_pos c4] at H
          have c4b0 : decide (x5_1 < a0) = true := decide_eq_true c4
          clear c4
          replace H := Option.bind_eq_some_iff.mp H
          obtain ⟨t318, A50, H⟩ := H
          replace H : (if x5_1 > 0 then ((spec_riAll.f k1 (wrap64 (x5_1 - 1)) (⟨#[48]⟩ : ByteArray)).bind fun t319 => (if t319.size + 1 ≤ 9223372036854775807 then (if (t319 ++ (⟨#[49]⟩ : ByteArray)).size + t318.size ≤ 9223372036854775807 then (if x4_1.length < 8796093022208 then (spec_BarKeys.l0 k1 a0 (x4_1 ++ [(t319 ++ (⟨#[49]⟩ : ByteArray)) ++ t318]) (wrap64 (x5_1 + 1))) else (none)) else (none)) else (none))) else (if x4_1.length < 8796093022208 then (spec_BarKeys.l0 k1 a0 (x4_1 ++ [t318]) (wrap64 (x5_1 + 1))) else (none))) = some (r1, r2) := H
          have A5 := Aside0.mk A50
          clear A50
          by_cases c6 : x5_1 > 0
          · rw [if_pos c6] at H
            have c6b0 : decide (0 < x5_1) = true := decide_eq_true c6
            clear c6
            replace H := Option.bind_eq_some_iff.mp H
            obtain ⟨t319, A70, H⟩ := H
            replace H : (if t319.size + 1 ≤ 9223372036854775807 then (if (t319 ++ (⟨#[49]⟩ : ByteArray)).size + t318.size ≤ 9223372036854775807 then (if x4_1.length < 8796093022208 then (spec_BarKeys.l0 k1 a0 (x4_1 ++ [(t319 ++ (⟨#[49]⟩ : ByteArray)) ++ t318]) (wrap64 (x5_1 + 1))) else (none)) else (none)) else (none)) = some (r1, r2) := H
            have A7 := Aside0.mk A70
            clear A70
            by_cases c8 : t319.size + 1 ≤ 9223372036854775807
            · rw [if_pos c8] at H
              have c8b0 := eq_true c8
              have c8b1 : decide (t319.size + 1 ≤ 9223372036854775807) = true := decide_eq_true c8
              try have c8b2 : (9223372036854775807 < t319.size + 1) = False := eq_false (Nat.not_lt.2 c8)
              by_cases c9 : (t319 ++ (⟨#[49]⟩ : ByteArray)).size + t318.size ≤ 9223372036854775807
              · rw [if_pos c9] at H
                have c9b0 := eq_true c9
                have c9b1 : decide ((t319 ++ (⟨#[49]⟩ : ByteArray)).size + t318.size ≤ 9223372036854775807) = true := decide_eq_true c9
                try have c9b2 : (9223372036854775807 < (t319 ++ (⟨#[49]⟩ : ByteArray)).size + t318.size) = False := eq_false (Nat.not_lt.2 c9)
                by_cases c10 : x4_1.length < 8796093022208
                · rw [if_pos c10] at H
                  have LMc10 := Aside0.mk c10
                  clear c10
                  obtain ⟨y320, hy320⟩ : ∃ y_ : List ByteArray, y_ = (x4_1 ++ [(t319 ++ (⟨#[49]⟩ : ByteArray)) ++ t318]) := ⟨_, rfl⟩
                  replace H : (spec_BarKeys.l0 k1 a0 y320 (wrap64 (x5_1 + 1))) = some (r1, r2) := by first | (rw [hy320]; with_reducible exact H) | (have H2_ := (Option.bind_some _ _).symm.trans H; rw [hy320]; with_reducible exact H2_) | (have H2_ := (Option.bind_some _ _).symm.trans H; with_reducible exact H2_) | with_reducible exact H | (rw [hy320]; exact H) | exact H
                  have Ny320 := Aside0.mk hy320
                  clear hy320
                  have H' := Aside0.mk H
                  clear H
                  go_wp2_with (first | ((with_reducible refine gate_callee (f := 71) rfl ?_); refine goesL_ (some 18) rfl rfl Try.func71 (by kernel_rfl) rfl #[.int .i64 (wrap64 (a0 - x5_1)), .string (⟨#[63]⟩ : ByteArray)] rfl (by (try simp only [List.map_toArray, List.map_cons, List.map_nil]); first | done | rfl | (simp only [List.length_drop, List.length_take]; rfl)) ?_; (with_reducible refine (spec_riAll.calls k1 (wrap64 (a0 - x5_1)) (⟨#[63]⟩ : ByteArray) t318 _ A5.out).mono ?_); rintro e w' ⟨rfl, ⟨nd, rfl⟩⟩; refine ⟨_, rfl, ?_⟩) | ((with_reducible refine gate_callee (f := 71) rfl ?_); refine goesL_ (some 23) rfl rfl Try.func71 (by kernel_rfl) rfl #[.int .i64 (wrap64 (x5_1 - 1)), .string (⟨#[48]⟩ : ByteArray)] rfl (by (try simp only [List.map_toArray, List.map_cons, List.map_nil]); first | done | rfl | (simp only [List.length_drop, List.length_take]; rfl)) ?_; (with_reducible refine (spec_riAll.calls k1 (wrap64 (x5_1 - 1)) (⟨#[48]⟩ : ByteArray) t319 _ A7.out).mono ?_); rintro e w' ⟨rfl, ⟨nd, rfl⟩⟩; refine ⟨_, rfl, ?_⟩) | ((with_reducible refine gate_builtin (b := .append) (xs := #[.tmp 27, .tmp 29]) rfl ?_); at_builtin; refine Kd.R_append Kd.string (w0 := w) w.heap.size rfl (.tmp 27) (.tmp 29) 54 9 (.string ⟨#[]⟩) 16 rfl Try.underlying54 info9 rfl (by decide) (by omega) u4 x4_1 ((t319 ++ (⟨#[49]⟩ : ByteArray)) ++ t318) [.string ((t319 ++ (⟨#[49]⟩ : ByteArray)) ++ t318)] (fun _ => True) (fun _ => False) rfl rfl ?aP (fun _ hk => hk.elim) ?aF ?aO ?aB ?aS ?aL ?_; (case aP => exact rfl); (case aB => exact (by repeat (first | (with_reducible first | exact HB.out | apply below_alloc | apply pw_below_drewN | apply below_drew1) | exact HB.out))); (case aF => exact (fun _ _ => trivial)); (case aO => exact (by (with_reducible repeat (first | apply Kd.R_alloc | apply Kd.R_drewN | apply Kd.R_drew)); exact HO_4.out)); (case aS => exact (below_size (by repeat (first | (with_reducible first | exact HB.out | apply below_alloc | apply pw_below_drewN | apply below_drew1) | exact HB.out)))); (case aL => have := LMc10.out; omega); intro v321 w11 ho hb hg hat; rw [← Ny320.out] at ho; have n0_ := Aside0.mk (hb); have n1_ := Aside0.mk (ho); clear HB; clear HO_4; have HB := n0_; have HO322 := n1_; clear n0_ n1_; clear ho hb hg hat))
                  go_roundg k1
                  case measure => have := HK1.out; omega
                  case rel => exact ⟨(y320), (wrap64 (x5_1 + 1)), (by first | rfl | (simp; done) | (simp [*]; done)), H', ⟨by have := HK1.out; omega⟩, ⟨by (with_reducible repeat (first | apply Kd.R_alloc | apply Kd.R_drewN | apply Kd.R_drew)); exact HO322.out⟩, ⟨by repeat (first | (with_reducible first | exact HB.out | apply below_alloc | apply pw_below_drewN | apply below_drew1) | exact HB.out)⟩⟩
                · rw [if_neg c10] at H
                  exact absurd H (by simp)
              · rw [if_neg c9] at H
                exact absurd H (by simp)
            · rw [if_neg c8] at H
              exact absurd H (by simp)
          · rw [if_neg c6] at H
            have c6b0 : decide (0 < x5_1) = false := decide_eq_false c6
            clear c6
            by_cases c12 : x4_1.length < 8796093022208
            · rw [if_pos c12] at H
              have LMc12 := Aside0.mk c12
              clear c12
              obtain ⟨y323, hy323⟩ : ∃ y_ : List ByteArray, y_ = (x4_1 ++ [t318]) := ⟨_, rfl⟩
              replace H : (spec_BarKeys.l0 k1 a0 y323 (wrap64 (x5_1 + 1))) = some (r1, r2) := by first | (rw [hy323]; with_reducible exact H) | (have H2_ := (Option.bind_some _ _).symm.trans H; rw [hy323]; with_reducible exact H2_) | (have H2_ := (Option.bind_some _ _).symm.trans H; with_reducible exact H2_) | with_reducible exact H | (rw [hy323]; exact H) | exact H
              have Ny323 := Aside0.mk hy323
              clear hy323
              have H' := Aside0.mk H
              clear H
              go_wp2_with (first | ((with_reducible refine gate_callee (f := 71) rfl ?_); refine goesL_ (some 18) rfl rfl Try.func71 (by kernel_rfl) rfl #[.int .i64 (wrap64 (a0 - x5_1)), .string (⟨#[63]⟩ : ByteArray)] rfl (by (try simp only [List.map_toArray, List.map_cons, List.map_nil]); first | done | rfl | (simp only [List.length_drop, List.length_take]; rfl)) ?_; (with_reducible refine (spec_riAll.calls k1 (wrap64 (a0 - x5_1)) (⟨#[63]⟩ : ByteArray) t318 _ A5.out).mono ?_); rintro e w' ⟨rfl, ⟨nd, rfl⟩⟩; refine ⟨_, rfl, ?_⟩) | ((with_reducible refine gate_builtin (b := .append) (xs := #[.tmp 27, .tmp 29]) rfl ?_); at_builtin; refine Kd.R_append Kd.string (w0 := w) w.heap.size rfl (.tmp 27) (.tmp 29) 54 9 (.string ⟨#[]⟩) 16 rfl Try.underlying54 info9 rfl (by decide) (by omega) u4 x4_1 t318 [.string t318] (fun _ => True) (fun _ => False) rfl rfl ?aP (fun _ hk => hk.elim) ?aF ?aO ?aB ?aS ?aL ?_; (case aP => exact rfl); (case aB => exact (by repeat (first | (with_reducible first | exact HB.out | apply below_alloc | apply pw_below_drewN | apply below_drew1) | exact HB.out))); (case aF => exact (fun _ _ => trivial)); (case aO => exact (by (with_reducible repeat (first | apply Kd.R_alloc | apply Kd.R_drewN | apply Kd.R_drew)); exact HO_4.out)); (case aS => exact (below_size (by repeat (first | (with_reducible first | exact HB.out | apply below_alloc | apply pw_below_drewN | apply below_drew1) | exact HB.out)))); (case aL => have := LMc12.out; omega); intro v324 w13 ho hb hg hat; rw [← Ny323.out] at ho; have n0_ := Aside0.mk (hb); have n1_ := Aside0.mk (ho); clear HB; clear HO_4; have HB := n0_; have HO325 := n1_; clear n0_ n1_; clear ho hb hg hat))
              go_roundg k1
              case measure => have := HK1.out; omega
              case rel => exact ⟨(y323), (wrap64 (x5_1 + 1)), (by first | rfl | (simp; done) | (simp [*]; done)), H', ⟨by have := HK1.out; omega⟩, ⟨by (with_reducible repeat (first | apply Kd.R_alloc | apply Kd.R_drewN | apply Kd.R_drew)); exact HO325.out⟩, ⟨by repeat (first | (with_reducible first | exact HB.out | apply below_alloc | apply pw_below_drewN | apply below_drew1) | exact HB.out)⟩⟩
            · rw [if_neg c12] at H
              exact absurd H (by simp)
        · rw [if_neg c4] at H
          have c4b0 : decide (x5_1 < a0) = false := decide_eq_false c4
          clear c4
          simp only [Option.some.injEq, Prod.mk.injEq] at H
          obtain ⟨rfl, rfl⟩ := H
          go_wp2
          go_ret2
          exact ⟨_, by first | rfl | (simp [errW_none, errW_some] <;> rfl) | (simp [*, errW_none, errW_some] <;> rfl), by (with_reducible repeat (first | apply Kd.R_alloc | apply Kd.R_drewN | apply Kd.R_drew)); exact HO_4.out, by repeat (first | (with_reducible first | exact HB.out | apply below_alloc | apply pw_below_drewN | apply below_drew1) | exact HB.out)⟩
  · replace c3 := Bool.eq_false_iff.mpr c3
    subst c3
    have H1 : (some (([] : List ByteArray), false)) = some (r1, r2) := by rw [if_neg (show ¬ (false = true) by decide)] at H; exact H
    clear H
    have H := H1
    clear H1
    simp only [Option.some.injEq, Prod.mk.injEq] at H
    obtain ⟨rfl, rfl⟩ := H
    go_enter Try.func40, Try.ntmps40
    go_wp2_with (first | ((with_reducible refine gate_callee (f := 81) rfl ?_); refine goesL_ (some 8) rfl rfl Try.func81 (by kernel_rfl) rfl #[.int .i64 a0] rfl (by (try simp only [List.map_toArray, List.map_cons, List.map_nil]); first | done | rfl | (simp only [List.length_drop, List.length_take]; rfl)) ?_; (with_reducible refine (spec_keRings.calls a0 false _ A2.out).mono ?_); rintro e w' ⟨rfl, ⟨nd, rfl⟩⟩; refine ⟨_, rfl, ?_⟩))
    go_ret2
    exact ⟨_, by first | rfl | (simp [errW_none, errW_some] <;> rfl) | (simp [*, errW_none, errW_some] <;> rfl), by first | exact Kd.R_nil _ _ _ _ _ | exact Kd.N_nil _ _ _ _ _ | exact Kd.V_nil _ _ _ _ _ | exact Kd.Q_nil _ _ _ _ _ | exact Kd.S_nil _ _ _ _ _, by repeat (first | (with_reducible first | exact HB.out | apply below_alloc | apply pw_below_drewN | apply below_drew1) | exact HB.out)⟩

-- NOT PRINTED: function 82 (impl_barKey)

-- NOT PRINTED: function 41 (impl_BarKeys)

-- NOT PRINTED: function 11 (laws_FnExactBarKeys)

end Go.Proofs.Ytclomifkpciefaa.A
