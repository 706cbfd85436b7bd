-- written by a program of this session's over the kit's print (xp.py)
import Derived.Test.YtcgilnmljflebaaAx0
import Derived.Test.YtcgilnmljflebaaAx1
-- halved
namespace Go.Proofs.Ytcgilnmljflebaa.A
-- slim
set_option maxHeartbeats 8000000
set_option maxRecDepth 100000
open Go.RowKit Go.Proofs.YtcgilnmljflebaaW.PrintWords Go.Proofs.YtcgilnmljflebaaW.PrintLast Go.Proofs.YtcgilnmljflebaaW.PrintMore
attribute [local go_sem] max2_int min2_int max_two min_two max_three min_three max_four min_four   -- for this text's walks alone
set_option linter.unusedVariables false
set_option linter.unusedSimpArgs false
def spec_nuLists.l0 : Nat → Int → Int → Int → Option (Int)
 | 0, _, _, _ => none
 | k + 1, x0, x3, x4 => if x4 ≤ x0 then (spec_nuLists.l0 k x0 (wrap64 (x3 * x4)) (wrap64 (x4 + 1))) else (some x3)
def spec_nuLists.f (k : Nat) (a0 : Int) : Option (Int) := spec_nuLists.l0 k a0 1 2
theorem spec_nuLists.mono_l : ∀ k, (∀ y0 y1 y2, LeO (spec_nuLists.l0 k y0 y1 y2) (spec_nuLists.l0 (k + 1) y0 y1 y2))
 | 0 => fun _ _ _ r h => by simp [spec_nuLists.l0] at h
 | k + 1 => by
  have ih0 := spec_nuLists.mono_l k
  ·intro y0 y1 y2
   unfold spec_nuLists.l0
   repeat' first
   | (with_reducible exact ih0 _ _ _)
   | (with_reducible exact LeO.refl _)
   | (with_reducible refine LeO.ite ?_ ?_)
theorem spec_nuLists.mono : ∀ a0 k, LeO (spec_nuLists.f k a0) (spec_nuLists.f (k + 1) a0) := by
 intro a0 k
 have ih0 := spec_nuLists.mono_l k
 unfold spec_nuLists.f
 repeat' first
   | (with_reducible exact ih0 _ _ _)
theorem spec_nuLists.calls (k : Nat) (a0 : Int) (r : Int) (w : World) (h : spec_nuLists.f k a0 = some r) :
  Calls Try.prog 56 #[.int .i64 a0] w fun e w' => e = .returned (.int .i64 r) ∧ Drawn0 w w' := by
 unfold spec_nuLists.f at h
 have H := h
 clear h
 have H' := Aside0.mk H
 clear H
 go_enter Try.func56, Try.ntmps56
 go_wp2
 go_loopg [3, 4] k (fun kq v3 v4 w' => ∃ (x3_1 : Int) (x4_1 : Int), v3 = .int .i64 x3_1 ∧ v4 = .int .i64 x4_1 ∧ Aside0 (spec_nuLists.l0 kq a0 x3_1 x4_1 = some r) ∧ Aside0 (kq ≤ k) ∧ Drawn0 w w')
 case atStart => exact ⟨(1), (2), (by rfl), (by rfl), H', ⟨Nat.le_refl _⟩, by exact Drawn0.refl _⟩
 case round =>
  clear H'
  obtain ⟨x3_1, x4_1, rfl, rfl, HA, HK1, ⟨m1, rfl⟩⟩ := hrel
  cases gk with
  | zero => exact absurd HA.out (by simp [spec_nuLists.l0])
  | succ k1 =>
   have H := HA.out
   clear HA
   simp only [spec_nuLists.l0] at H
   by_cases c2 : x4_1 ≤ a0
   ·rw [if_pos c2] at H
    have c2b0 : decide (x4_1 ≤ a0) = true := decide_eq_true c2
    clear c2
    have H' := Aside0.mk H
    clear H
    go_wp2
    go_roundg k1
    case measure => have := HK1.out; omega
    case rel => exact ⟨(wrap64 (x3_1 * x4_1)), (wrap64 (x4_1 + 1)), (by rfl), (by rfl), H', ⟨by have := HK1.out; omega⟩, by (apply Drawn0.step; exact Drawn0.refl _)⟩
   ·rw [if_neg c2] at H
    have c2b0 : decide (x4_1 ≤ a0) = false := decide_eq_false c2
    clear c2
    obtain rfl := Option.some.inj H
    go_wp2
    go_ret
    exact ⟨by rfl, by (apply Drawn0.step; exact Drawn0.refl _)⟩
def spec_DrawSwappedAt_c.f (k : Nat) (s0_0 : List Int) (s0_1 : Int) (s0_2 : Int) : Option (Int × Int × Int × Int) := (spec_l1Cur_one.f s0_0 s0_1 s0_2 10).bind fun bt292 => (if bt292.1 = true then ((spec_l1Cur_among.f s0_0 bt292.2.1 bt292.2.2 (([(-1), 0, 1, 10, 11] : List Int))).bind fun bt298 => ((spec_l1Cur_among.f s0_0 bt298.2.1 bt298.2.2 (([(-1), 0, 3628799, 3628800, 4611686018427387904] : List Int))).bind fun bt304 => (some (bt298.1, bt304.1, bt304.2.1, bt304.2.2)))) else ((spec_l1Cur_pick.f s0_0 bt292.2.1 bt292.2.2 6).bind fun bt307 => ((spec_nuLists.f k (wrap64 (1 + bt307.1))).bind fun t310 => ((spec_l1Cur_pick.f s0_0 bt307.2.1 bt307.2.2 (wrap64 (t310 + 1))).bind fun bt311 => ((spec_l1Cur_pick.f s0_0 bt311.2.1 bt311.2.2 9).bind fun bt314 => (some (wrap64 (1 + bt307.1), wrap64 (bt311.1 - (wrap64 (Int.tdiv bt314.1 8))), bt314.2.1, bt314.2.2)))))))
theorem spec_DrawSwappedAt_c.at (k : Nat) (A0 : Option Addr) (c0 : Nat) (s0_0 : List Int) (s0_1 : Int) (s0_2 : Int) (r1 : Int) (r2 : Int) (r3 : Int) (r4 : Int) (w0 : World) (ez1 : s0_1 = 0) (ez2 : s0_2 = 0) (hr0 : Kd.C (Kd.int .u8) w0 A0 s0_0.length s0_0) (hc0 : s0_0.length ≤ c0) (h : spec_DrawSwappedAt_c.f k s0_0 s0_1 s0_2 = some (r1, r2, r3, r4)) :
  Calls Try.prog 21 #[.slice A0 s0_0.length c0] w0 fun e w' => e = .returned (.tuple #[.int .i64 r1, .int .i64 r2]) ∧ Below w0.heap.size w0 w' := by
 have hu51 := Try.underlying51
 have HRA := Aside0.mk hr0
 have EZ1 := Aside0.mk ez1
 have EZ2 := Aside0.mk ez2
 clear hr0 ez1 ez2
 unfold spec_DrawSwappedAt_c.f at h
 have H := h
 clear h
 replace H := Option.bind_eq_some_iff.mp H
 obtain ⟨⟨t292, t293, t294⟩, A20, H⟩ := H
 try dsimp +instances only at H
 replace H := H
 have A2 := Aside0.mk A20
 clear A20
 by_cases c3 : t292 = true
 ·subst c3
  rw [if_pos rfl] at H
  have H1 := H
  clear H
  have H := H1
  clear H1
  obtain ⟨y295, hy295⟩ : ∃ y_ : List Int, y_ = (([(-1), 0, 1, 10, 11] : List Int)) := ⟨_, rfl⟩
  replace H : ((spec_l1Cur_among.f s0_0 t293 t294 y295).bind fun bt298 => ((spec_l1Cur_among.f s0_0 bt298.2.1 bt298.2.2 (([(-1), 0, 3628799, 3628800, 4611686018427387904] : List Int))).bind fun bt304 => (some (bt298.1, bt304.1, bt304.2.1, bt304.2.2)))) = some (r1, r2, r3, r4) := by first | (rw [hy295]; with_reducible exact H) | (have H2_ := (Option.bind_some _ _).symm.trans H; rw [hy295]; with_reducible exact H2_) | (have H2_ := (Option.bind_some _ _).symm.trans H; with_reducible exact H2_) | with_reducible exact H | (rw [hy295]; exact H) | exact H
  have Ny295 := Aside0.mk hy295
  clear hy295
  replace H := Option.bind_eq_some_iff.mp H
  obtain ⟨⟨t298, t299, t300⟩, A40, H⟩ := H
  try dsimp +instances only at H
  replace H := H
  have A4 := Aside0.mk A40
  clear A40
  obtain ⟨y301, hy301⟩ : ∃ y_ : List Int, y_ = (([(-1), 0, 3628799, 3628800, 4611686018427387904] : List Int)) := ⟨_, rfl⟩
  replace H : ((spec_l1Cur_among.f s0_0 t299 t300 y301).bind fun bt304 => (some (t298, bt304.1, bt304.2.1, bt304.2.2))) = some (r1, r2, r3, r4) := by first | (rw [hy301]; with_reducible exact H) | (have H2_ := (Option.bind_some _ _).symm.trans H; rw [hy301]; with_reducible exact H2_) | (have H2_ := (Option.bind_some _ _).symm.trans H; with_reducible exact H2_) | with_reducible exact H | (rw [hy301]; exact H) | exact H
  have Ny301 := Aside0.mk hy301
  clear hy301
  replace H := Option.bind_eq_some_iff.mp H
  obtain ⟨⟨t304, t305, t306⟩, A50, H⟩ := H
  try dsimp +instances only at H
  replace H := H
  have A5 := Aside0.mk A50
  clear A50
  simp only [Option.some.injEq, Prod.mk.injEq] at H
  obtain ⟨rfl, rfl, rfl, rfl⟩ := H
  go_enter Try.func21, Try.ntmps21
  try dsimp only [List.append]
  go_upto_region 2 with (first | ((with_reducible refine gate_dst (N := 8) rfl ?_); (try (refine gate_guard (by rfl) ?_; dsimp only)); refine box_event ?hg (N := 8) ?hd (cs := #[.slice A0 s0_0.length c0, .int .i64 0, .int .u64 0]) (t := 51) ?hr ?_; (case hd => rfl); (case hg => rfl); (case hr => first | (go_simp; done) | (go_simp; rfl)); intro g hgb w hbox hb; have HI0 := Aside0.mk (show IsS51 w0 w g s0_0 s0_1 s0_2 from ⟨A0, c0, by rw [EZ1.out, EZ2.out]; exact hbox, by rw [hgb]; exact Nat.le_refl _, HRA.out⟩); have HK := Aside0.mk (KeepBut.refl w g none); have HL := Aside0.mk hb.size; have HW0 := Aside0.mk hb.size; have HB := Aside0.mk hb; clear hb hbox hgb))
  (try simp only [Act.put, List.setIfInBounds_toArray, List.set_cons_zero, List.set_cons_succ])
  go_wp2_with (first | ((with_reducible refine gate_callee (f := 36) rfl ?_); refine goesL_ (some 10) rfl rfl Try.func36 (by kernel_rfl) rfl #[.pointer (some ⟨g, 0, none⟩), .int .i64 10] rfl (by (try simp only [List.map_toArray, List.map_cons, List.map_nil]); rfl) ?_; (with_reducible refine (spec_l1Cur_one.calls g s0_0 s0_1 s0_2 10 true t293 t294 w0 _ ?side1 ?side2 A2.out).mono ?_); (case side1 => exact HI0.out); (case side2 => exact HB.out); rintro e w6 ⟨rfl, hi, hb, hk⟩; refine ⟨_, rfl, ?_⟩; have n0_ := Aside0.mk (KeepBut.trans (HK.out) hk (.inl rfl)); have n1_ := Aside0.mk (hb); have n2_ := Aside0.mk (hi); clear HK; clear HB; clear HI0; have HK := n0_; have HB := n1_; have HI0 := n2_; clear n0_ n1_ n2_; clear hb; clear hk; clear hi) | ((with_reducible refine gate_dst (N := 12) rfl ?_); refine Kd.R_lit (Kd.int .i64) _ 3 ?hg (N := 12) ?hd (xs := ([(-1), 0, 1, 10, 11] : List Int)) (inner := [.int .i64 (-1), .int .i64 0, .int .i64 1, .int .i64 10, .int .i64 11]) (ok := fun _ => True) (okp := fun _ => True) ?hr ?hp (fun _ hk => hk) trivial (Below.refl _ _) (Nat.le_refl _) (by simp) ?_; (case hd => rfl); (case hg => rfl); (case hr => first | (go_simp; done) | (go_simp; rfl)); (case hp => exact (Reps.one (show Kd.M (Kd.int .i64) _ _ _ (-1) [.int .i64 (-1)] from rfl) (Reps.one (show Kd.M (Kd.int .i64) _ _ _ 0 [.int .i64 0] from rfl) (Reps.one (show Kd.M (Kd.int .i64) _ _ _ 1 [.int .i64 1] from rfl) (Reps.one (show Kd.M (Kd.int .i64) _ _ _ 10 [.int .i64 10] from rfl) (Reps.one (show Kd.M (Kd.int .i64) _ _ _ 11 [.int .i64 11] from rfl) (Reps.none _ _))))))); intro v296 w7 ho8 hb hg_ hnew_; clear hg_ hnew_; (first | rw [← Ny295.out] at ho8 | (simp only [Int.reduceToNat] at ho8; rw [← Ny295.out] at ho8)); have n0_ := Aside0.mk (Kd.R_lower ho8 (keep_size (w := w) (g := g) (row := none) (HK.out))); have n1_ := Aside0.mk (IsS51.below (HI0.out) hb); have n2_ := Aside0.mk (KeepBut.trans (HK.out) (KeepBut.of_below hb g none) (.inl rfl)); have n3_ := Aside0.mk (below_step (HB.out) hb); clear HI0; clear HK; clear HB; have HO297 := n0_; have HI0 := n1_; have HK := n2_; have HB := n3_; clear n0_ n1_ n2_ n3_; clear hb ho8; obtain ⟨Ao9, co9, eo9⟩ := Kd.R_slice HO297.out; subst eo9) | ((with_reducible refine gate_callee (f := 37) rfl ?_); refine goesL_ (some 13) rfl rfl Try.func37 (by kernel_rfl) rfl #[.pointer (some ⟨g, 0, none⟩), .slice Ao9 y295.length co9] rfl (by (try simp only [List.map_toArray, List.map_cons, List.map_nil]); rfl) ?_; (with_reducible refine (spec_l1Cur_among.calls g s0_0 t293 t294 _ _ y295 t298 t299 t300 w0 _ ?side1 ?side2 ?side3 ?side4 ?side5 A4.out).mono ?_); (case side1 => exact HI0.out); (case side2 => exact HB.out); (case side3 => exact (Kd.R_reads' HO297.out).2.2); (case side4 => exact (Kd.R_reads' HO297.out).2.1); (case side5 => exact far_slice (IsS51.own_ne HI0.out HO297.out (by decide))); rintro e w10 ⟨rfl, hi, hb, hk⟩; refine ⟨_, rfl, ?_⟩; have n0_ := Aside0.mk (Kd.R_mono (Kd.R_keep (IsS51.apart (show IsS51 w0 _ g s0_0 t293 t294 from HI0.out) (HO297.out) (by decide)) hk (fun _ h => h.2)) (fun _ h => h.1)); have n1_ := Aside0.mk (KeepBut.trans (HK.out) hk (.inl rfl)); have n2_ := Aside0.mk (hb); have n3_ := Aside0.mk (hi); clear HO297; clear HK; clear HB; clear HI0; have HO297 := n0_; have HK := n1_; have HB := n2_; have HI0 := n3_; clear n0_ n1_ n2_ n3_; clear hb; clear hk; clear hi) | ((with_reducible refine gate_dst (N := 15) rfl ?_); refine Kd.R_lit (Kd.int .i64) _ 3 ?hg (N := 15) ?hd (xs := ([(-1), 0, 3628799, 3628800, 4611686018427387904] : List Int)) (inner := [.int .i64 (-1), .int .i64 0, .int .i64 3628799, .int .i64 3628800, .int .i64 4611686018427387904]) (ok := fun _ => True) (okp := fun _ => True) ?hr ?hp (fun _ hk => hk) trivial (Below.refl _ _) (Nat.le_refl _) (by simp) ?_; (case hd => rfl); (case hg => rfl); (case hr => first | (go_simp; done) | (go_simp; rfl)); (case hp => exact (Reps.one (show Kd.M (Kd.int .i64) _ _ _ (-1) [.int .i64 (-1)] from rfl) (Reps.one (show Kd.M (Kd.int .i64) _ _ _ 0 [.int .i64 0] from rfl) (Reps.one (show Kd.M (Kd.int .i64) _ _ _ 3628799 [.int .i64 3628799] from rfl) (Reps.one (show Kd.M (Kd.int .i64) _ _ _ 3628800 [.int .i64 3628800] from rfl) (Reps.one (show Kd.M (Kd.int .i64) _ _ _ 4611686018427387904 [.int .i64 4611686018427387904] from rfl) (Reps.none _ _))))))); intro v302 w11 ho12 hb hg_ hnew_; clear hg_ hnew_; (first | rw [← Ny301.out] at ho12 | (simp only [Int.reduceToNat] at ho12; rw [← Ny301.out] at ho12)); have n0_ := Aside0.mk (Kd.R_elder' (HO297.out) (Kd.R_base ho12) hb); have n1_ := Aside0.mk (Kd.R_lower (Kd.R_new' ho12 (Kd.R_lt (HO297.out))) (keep_size (w := w) (g := g) (row := none) (HK.out))); have n2_ := Aside0.mk (IsS51.below (HI0.out) hb); have n3_ := Aside0.mk (KeepBut.trans (HK.out) (KeepBut.of_below hb g none) (.inl rfl)); have n4_ := Aside0.mk (below_step (HB.out) hb); clear HO297; clear HI0; clear HK; clear HB; have HO297 := n0_; have HO303 := n1_; have HI0 := n2_; have HK := n3_; have HB := n4_; clear n0_ n1_ n2_ n3_ n4_; clear hb ho12; obtain ⟨Ao13, co13, eo13⟩ := Kd.R_slice HO303.out; subst eo13) | ((with_reducible refine gate_callee (f := 37) rfl ?_); refine goesL_ (some 16) rfl rfl Try.func37 (by kernel_rfl) rfl #[.pointer (some ⟨g, 0, none⟩), .slice Ao13 y301.length co13] rfl (by (try simp only [List.map_toArray, List.map_cons, List.map_nil]); rfl) ?_; (with_reducible refine (spec_l1Cur_among.calls g s0_0 t299 t300 _ _ y301 t304 t305 t306 w0 _ ?side1 ?side2 ?side3 ?side4 ?side5 A5.out).mono ?_); (case side1 => exact HI0.out); (case side2 => exact HB.out); (case side3 => exact (Kd.R_reads' HO303.out).2.2); (case side4 => exact (Kd.R_reads' HO303.out).2.1); (case side5 => exact far_slice (IsS51.own_ne HI0.out HO303.out (by decide))); rintro e w14 ⟨rfl, hi, hb, hk⟩; refine ⟨_, rfl, ?_⟩; have n0_ := Aside0.mk (Kd.R_mono (Kd.R_keep (IsS51.apart (show IsS51 w0 _ g s0_0 t299 t300 from HI0.out) (HO297.out) (by decide)) hk (fun _ h => h.2)) (fun _ h => h.1)); have n1_ := Aside0.mk (Kd.R_mono (Kd.R_keep (IsS51.apart (show IsS51 w0 _ g s0_0 t299 t300 from HI0.out) (HO303.out) (by decide)) hk (fun _ h => h.2)) (fun _ h => h.1)); have n2_ := Aside0.mk (KeepBut.trans (HK.out) hk (.inl rfl)); have n3_ := Aside0.mk (hb); have n4_ := Aside0.mk (hi); clear HO297; clear HO303; clear HK; clear HB; clear HI0; have HO297 := n0_; have HO303 := n1_; have HK := n2_; have HB := n3_; have HI0 := n4_; clear n0_ n1_ n2_ n3_ n4_; clear hb; clear hk; clear hi))
  go_ret2
  exact ⟨by rfl, HB.out⟩
 ·replace c3 := Bool.eq_false_iff.mpr c3
  subst c3
  rw [if_neg (show ¬ (false = true) by decide)] at H
  have H1 := H
  clear H
  have H := H1
  clear H1
  replace H := Option.bind_eq_some_iff.mp H
  obtain ⟨⟨t307, t308, t309⟩, A150, H⟩ := H
  try dsimp +instances only at H
  replace H := H
  have A15 := Aside0.mk A150
  clear A150
  replace H := Option.bind_eq_some_iff.mp H
  obtain ⟨t310, A160, H⟩ := H
  try dsimp +instances only at H
  replace H := H
  have A16 := Aside0.mk A160
  clear A160
  replace H := Option.bind_eq_some_iff.mp H
  obtain ⟨⟨t311, t312, t313⟩, A170, H⟩ := H
  try dsimp +instances only at H
  replace H := H
  have A17 := Aside0.mk A170
  clear A170
  replace H := Option.bind_eq_some_iff.mp H
  obtain ⟨⟨t314, t315, t316⟩, A180, H⟩ := H
  try dsimp +instances only at H
  replace H := H
  have A18 := Aside0.mk A180
  clear A180
  simp only [Option.some.injEq, Prod.mk.injEq] at H
  obtain ⟨rfl, rfl, rfl, rfl⟩ := H
  go_enter Try.func21, Try.ntmps21
  try dsimp only [List.append]
  go_upto_region 2 with (first | ((with_reducible refine gate_dst (N := 8) rfl ?_); (try (refine gate_guard (by rfl) ?_; dsimp only)); refine box_event ?hg (N := 8) ?hd (cs := #[.slice A0 s0_0.length c0, .int .i64 0, .int .u64 0]) (t := 51) ?hr ?_; (case hd => rfl); (case hg => rfl); (case hr => first | (go_simp; done) | (go_simp; rfl)); intro g hgb w hbox hb; have HI0 := Aside0.mk (show IsS51 w0 w g s0_0 s0_1 s0_2 from ⟨A0, c0, by rw [EZ1.out, EZ2.out]; exact hbox, by rw [hgb]; exact Nat.le_refl _, HRA.out⟩); have HK := Aside0.mk (KeepBut.refl w g none); have HL := Aside0.mk hb.size; have HW0 := Aside0.mk hb.size; have HB := Aside0.mk hb; clear hb hbox hgb))
  (try simp only [Act.put, List.setIfInBounds_toArray, List.set_cons_zero, List.set_cons_succ])
  go_wp2_with (first | ((with_reducible refine gate_callee (f := 36) rfl ?_); refine goesL_ (some 10) rfl rfl Try.func36 (by kernel_rfl) rfl #[.pointer (some ⟨g, 0, none⟩), .int .i64 10] rfl (by (try simp only [List.map_toArray, List.map_cons, List.map_nil]); rfl) ?_; (with_reducible refine (spec_l1Cur_one.calls g s0_0 s0_1 s0_2 10 false t293 t294 w0 _ ?side1 ?side2 A2.out).mono ?_); (case side1 => exact HI0.out); (case side2 => exact HB.out); rintro e w19 ⟨rfl, hi, hb, hk⟩; refine ⟨_, rfl, ?_⟩; have n0_ := Aside0.mk (KeepBut.trans (HK.out) hk (.inl rfl)); have n1_ := Aside0.mk (hb); have n2_ := Aside0.mk (hi); clear HK; clear HB; clear HI0; have HK := n0_; have HB := n1_; have HI0 := n2_; clear n0_ n1_ n2_; clear hb; clear hk; clear hi) | ((with_reducible refine gate_callee (f := 38) rfl ?_); refine goesL_ (some 18) rfl rfl Try.func38 (by kernel_rfl) rfl #[.pointer (some ⟨g, 0, none⟩), .int .i64 6] rfl (by (try simp only [List.map_toArray, List.map_cons, List.map_nil]); rfl) ?_; (with_reducible refine (spec_l1Cur_pick.calls g s0_0 t293 t294 6 t307 t308 t309 w0 _ ?side1 ?side2 A15.out).mono ?_); (case side1 => exact HI0.out); (case side2 => exact HB.out); rintro e w20 ⟨rfl, hi, hb, hk⟩; refine ⟨_, rfl, ?_⟩; have n0_ := Aside0.mk (KeepBut.trans (HK.out) hk (.inl rfl)); have n1_ := Aside0.mk (hb); have n2_ := Aside0.mk (hi); clear HK; clear HB; clear HI0; have HK := n0_; have HB := n1_; have HI0 := n2_; clear n0_ n1_ n2_; clear hb; clear hk; clear hi) | ((with_reducible refine gate_callee (f := 56) rfl ?_); refine goesL_ (some 23) rfl rfl Try.func56 (by kernel_rfl) rfl #[.int .i64 (wrap64 (1 + t307))] rfl (by (try simp only [List.map_toArray, List.map_cons, List.map_nil]); rfl) ?_; (with_reducible refine (spec_nuLists.calls k (wrap64 (1 + t307)) t310 _ A16.out).mono ?_); rintro e w' ⟨rfl, ⟨nd, rfl⟩⟩; refine ⟨_, rfl, ?_⟩) | ((with_reducible refine gate_callee (f := 38) rfl ?_); refine goesL_ (some 25) rfl rfl Try.func38 (by kernel_rfl) rfl #[.pointer (some ⟨g, 0, none⟩), .int .i64 (wrap64 (t310 + 1))] rfl (by (try simp only [List.map_toArray, List.map_cons, List.map_nil]); rfl) ?_; (with_reducible refine (spec_l1Cur_pick.calls g s0_0 t308 t309 (wrap64 (t310 + 1)) t311 t312 t313 w0 _ ?side1 ?side2 A17.out).mono ?_); (case side1 => (apply IsS51.drewN; exact HI0.out)); (case side2 => (apply pw_below_drewN; exact HB.out)); rintro e w21 ⟨rfl, hi, hb, hk⟩; refine ⟨_, rfl, ?_⟩; have n0_ := Aside0.mk (KeepBut.trans (by (apply keep_drewN; exact HK.out)) hk (.inl rfl)); have n1_ := Aside0.mk (hb); have n2_ := Aside0.mk (hi); clear HK; clear HB; clear HI0; have HK := n0_; have HB := n1_; have HI0 := n2_; clear n0_ n1_ n2_; clear hb; clear hk; clear hi) | ((with_reducible refine gate_callee (f := 38) rfl ?_); refine goesL_ (some 27) rfl rfl Try.func38 (by kernel_rfl) rfl #[.pointer (some ⟨g, 0, none⟩), .int .i64 9] rfl (by (try simp only [List.map_toArray, List.map_cons, List.map_nil]); rfl) ?_; (with_reducible refine (spec_l1Cur_pick.calls g s0_0 t312 t313 9 t314 t315 t316 w0 _ ?side1 ?side2 A18.out).mono ?_); (case side1 => exact HI0.out); (case side2 => exact HB.out); rintro e w22 ⟨rfl, hi, hb, hk⟩; refine ⟨_, rfl, ?_⟩; have n0_ := Aside0.mk (KeepBut.trans (HK.out) hk (.inl rfl)); have n1_ := Aside0.mk (hb); have n2_ := Aside0.mk (hi); clear HK; clear HB; clear HI0; have HK := n0_; have HB := n1_; have HI0 := n2_; clear n0_ n1_ n2_; clear hb; clear hk; clear hi))
  go_ret2
  exact ⟨by rfl, HB.out⟩
def spec_DrawSwappedAt.f (k : Nat) (l0 : List Int) : Option (Int × Int) := (spec_DrawSwappedAt_c.f k l0 0 0).map fun r_ => (r_.1, r_.2.1)
theorem spec_DrawSwappedAt.calls (k : Nat) (A0 : Option Addr) (c0 : Nat) (l0 : List Int) (r1 : Int) (r2 : Int) (w : World) (hr0 : Kd.C (Kd.int .u8) w A0 l0.length l0) (hc0 : l0.length ≤ c0) (h : spec_DrawSwappedAt.f k l0 = some (r1, r2)) :
  Calls Try.prog 21 #[.slice A0 l0.length c0] w fun e w' => e = .returned (.tuple #[.int .i64 r1, .int .i64 r2]) ∧ Below w.heap.size w w' := by
 unfold spec_DrawSwappedAt.f at h
 obtain ⟨⟨y0, y1, y2, y3⟩, h1, h2⟩ := Option.map_eq_some_iff.mp h
 simp only [Prod.mk.injEq] at h2
 obtain ⟨rfl, rfl⟩ := h2
 exact spec_DrawSwappedAt_c.at k A0 c0 l0 0 0 _ _ _ _ w rfl rfl hr0 hc0 h1
def impl_orders.l0 : Nat → Int → Int → Int → Option (Int)
 | 0, _, _, _ => none
 | k + 1, x0, x3, x4 => if x4 ≤ x0 then (impl_orders.l0 k x0 (wrap64 (x3 * x4)) (wrap64 (x4 + 1))) else (some x3)
def impl_orders.f (k : Nat) (a0 : Int) : Option (Int) := impl_orders.l0 k a0 1 2
theorem impl_orders.mono_l : ∀ k, (∀ y0 y1 y2, LeO (impl_orders.l0 k y0 y1 y2) (impl_orders.l0 (k + 1) y0 y1 y2))
 | 0 => fun _ _ _ r h => by simp [impl_orders.l0] at h
 | k + 1 => by
  have ih0 := impl_orders.mono_l k
  ·intro y0 y1 y2
   unfold impl_orders.l0
   repeat' first
   | (with_reducible exact ih0 _ _ _)
   | (with_reducible exact LeO.refl _)
   | (with_reducible refine LeO.ite ?_ ?_)
theorem impl_orders.mono : ∀ a0 k, LeO (impl_orders.f k a0) (impl_orders.f (k + 1) a0) := by
 intro a0 k
 have ih0 := impl_orders.mono_l k
 unfold impl_orders.f
 repeat' first
   | (with_reducible exact ih0 _ _ _)
theorem impl_orders.calls (k : Nat) (a0 : Int) (r : Int) (w : World) (h : impl_orders.f k a0 = some r) :
  Calls Try.prog 60 #[.int .i64 a0] w fun e w' => e = .returned (.int .i64 r) ∧ Drawn0 w w' := by
 unfold impl_orders.f at h
 have H := h
 clear h
 have H' := Aside0.mk H
 clear H
 go_enter Try.func60, Try.ntmps60
 go_wp2
 go_loopg [3, 4] k (fun kq v3 v4 w' => ∃ (x3_1 : Int) (x4_1 : Int), v3 = .int .i64 x3_1 ∧ v4 = .int .i64 x4_1 ∧ Aside0 (impl_orders.l0 kq a0 x3_1 x4_1 = some r) ∧ Aside0 (kq ≤ k) ∧ Drawn0 w w')
 case atStart => exact ⟨(1), (2), (by rfl), (by rfl), H', ⟨Nat.le_refl _⟩, by exact Drawn0.refl _⟩
 case round =>
  clear H'
  obtain ⟨x3_1, x4_1, rfl, rfl, HA, HK1, ⟨m1, rfl⟩⟩ := hrel
  cases gk with
  | zero => exact absurd HA.out (by simp [impl_orders.l0])
  | succ k1 =>
   have H := HA.out
   clear HA
   simp only [impl_orders.l0] at H
   by_cases c2 : x4_1 ≤ a0
   ·rw [if_pos c2] at H
    have c2b0 : decide (x4_1 ≤ a0) = true := decide_eq_true c2
    clear c2
    have H' := Aside0.mk H
    clear H
    go_wp2
    go_roundg k1
    case measure => have := HK1.out; omega
    case rel => exact ⟨(wrap64 (x3_1 * x4_1)), (wrap64 (x4_1 + 1)), (by rfl), (by rfl), H', ⟨by have := HK1.out; omega⟩, by (apply Drawn0.step; exact Drawn0.refl _)⟩
   ·rw [if_neg c2] at H
    have c2b0 : decide (x4_1 ≤ a0) = false := decide_eq_false c2
    clear c2
    obtain rfl := Option.some.inj H
    go_wp2
    go_ret
    exact ⟨by rfl, by (apply Drawn0.step; exact Drawn0.refl _)⟩
def impl_isSwapped.f (k : Nat) (a0 : Int) (a1 : Int) : Option (Bool) := (impl_in.f a0 1 10).bind fun t317 => (if t317 = true then ((impl_orders.f k a0).bind fun t318 => ((impl_in.f a1 0 (wrap64 (t318 - 1))).bind fun t319 => (some t319))) else (some false))
theorem impl_isSwapped.calls (k : Nat) (a0 : Int) (a1 : Int) (r : Bool) (w : World) (h : impl_isSwapped.f k a0 a1 = some r) :
  Calls Try.prog 57 #[.int .i64 a0, .int .i64 a1] w fun e w' => e = .returned (.bool r) ∧ Drawn0 w w' := by
 unfold impl_isSwapped.f at h
 have H := h
 clear h
 replace H := Option.bind_eq_some_iff.mp H
 obtain ⟨t317, A30, H⟩ := H
 try dsimp +instances only at H
 replace H := H
 have A3 := Aside0.mk A30
 clear A30
 by_cases c4 : t317 = true
 ·subst c4
  rw [if_pos rfl] at H
  have H1 := H
  clear H
  have H := H1
  clear H1
  replace H := Option.bind_eq_some_iff.mp H
  obtain ⟨t318, A50, H⟩ := H
  try dsimp +instances only at H
  replace H := H
  have A5 := Aside0.mk A50
  clear A50
  replace H := Option.bind_eq_some_iff.mp H
  obtain ⟨t319, A60, H⟩ := H
  try dsimp +instances only at H
  replace H := H
  have A6 := Aside0.mk A60
  clear A60
  obtain rfl := Option.some.inj H
  go_enter Try.func57, Try.ntmps57
  go_wp2_with (first | ((with_reducible refine gate_callee (f := 40) rfl ?_); refine goesL_ (some 6) rfl rfl Try.func40 (by kernel_rfl) rfl #[.int .i64 a0, .int .i64 1, .int .i64 10] rfl (by (try simp only [List.map_toArray, List.map_cons, List.map_nil]); rfl) ?_; (with_reducible refine (impl_in.calls a0 1 10 true _ A3.out).mono ?_); rintro e w' ⟨rfl, ⟨nd, rfl⟩⟩; refine ⟨_, rfl, ?_⟩) | (go_at_call 60; (with_reducible refine (impl_orders.calls k a0 t318 _ A5.out).mono ?_); rintro e w' ⟨rfl, ⟨nd, rfl⟩⟩) | (go_at_call 40; (with_reducible refine (impl_in.calls a1 0 (wrap64 (t318 - 1)) t319 _ A6.out).mono ?_); rintro e w' ⟨rfl, ⟨nd, rfl⟩⟩))
  go_ret
  exact ⟨by rfl, by (apply Drawn0.step; exact Drawn0.refl _)⟩
 ·replace c4 := Bool.eq_false_iff.mpr c4
  subst c4
  rw [if_neg (show ¬ (false = true) by decide)] at H
  have H1 := H
  clear H
  have H := H1
  clear H1
  obtain rfl := Option.some.inj H
  go_enter Try.func57, Try.ntmps57
  go_wp2_with (first | ((with_reducible refine gate_callee (f := 40) rfl ?_); refine goesL_ (some 6) rfl rfl Try.func40 (by kernel_rfl) rfl #[.int .i64 a0, .int .i64 1, .int .i64 10] rfl (by (try simp only [List.map_toArray, List.map_cons, List.map_nil]); rfl) ?_; (with_reducible refine (impl_in.calls a0 1 10 false _ A3.out).mono ?_); rintro e w' ⟨rfl, ⟨nd, rfl⟩⟩; refine ⟨_, rfl, ?_⟩))
  go_ret
  exact ⟨by rfl, by (apply Drawn0.step; exact Drawn0.refl _)⟩
-- NOT PRINTED: function 80 (slices_overlaps_int)
-- NOT PRINTED: function 83 (slices_rotateLeft_int)
-- NOT PRINTED: function 81 (slices_rotateRight_int)
-- NOT PRINTED: function 73 (slices_Insert_int_int)
theorem ins_room {α : Type} (c e : List α) (n p : Nat) (x : α) (h : c.take n = e) (he : e.length = n) (hp : p ≤ n) (hc : n + 1 ≤ c.length) :
  ((c.take (p + 1) ++ e.drop p ++ c.drop (p + 1 + (e.drop p).length)).take p ++ [x] ++ (c.take (p + 1) ++ e.drop p ++ c.drop (p + 1 + (e.drop p).length)).drop (p + 1)).take (n + 1) = e.take p ++ ([x] ++ e.drop p) := by
 have h1 : (c.take (p + 1)).length = p + 1 := by rw [List.length_take]; omega
 have h2 : (c.take (p + 1) ++ e.drop p ++ c.drop (p + 1 + (e.drop p).length)).take p = e.take p := by
  rw [List.append_assoc, List.take_append_of_le_length (by omega), List.take_take, Nat.min_eq_left (by omega), ← h, List.take_take, Nat.min_eq_left hp]
 have h3 : (c.take (p + 1) ++ e.drop p ++ c.drop (p + 1 + (e.drop p).length)).drop (p + 1) = e.drop p ++ c.drop (p + 1 + (e.drop p).length) := by
  rw [List.append_assoc]; exact List.drop_left' h1
 rw [h2, h3, List.append_assoc, ← List.append_assoc [x], ← List.append_assoc (e.take p)]
 exact List.take_left' (by simp; omega)
theorem ins_grow {α : Type} (a e : List α) (n p : Nat) (x : α) (h : a.take p = e.take p) (he : e.length = n) (hp : p ≤ n) (hc : n + 1 ≤ a.length) :
  ((a.take p ++ [x] ++ a.drop (p + 1)).take (p + 1) ++ e.drop p ++ (a.take p ++ [x] ++ a.drop (p + 1)).drop (p + 1 + (e.drop p).length)).take (n + 1) = e.take p ++ ([x] ++ e.drop p) := by
 have h1 : (a.take p ++ [x]).length = p + 1 := by rw [List.length_append, List.length_take, List.length_singleton]; omega
 have h2 : (a.take p ++ [x] ++ a.drop (p + 1)).take (p + 1) = a.take p ++ [x] := List.take_left' h1
 rw [h2, h, List.append_assoc (e.take p)]
 exact List.take_left' (by simp; omega)
theorem R_new {W : World} {base g cap : Nat} {cells : Array Value} {ys : List Int} (hg : W.heap[g]? = some (.cells cells 3 (0, 0))) (hb : base ≤ g) (hn : ys.length ≤ cap) (hm : cap ≤ maxLen) (hs : cells.size = cap) (ht : cells.toList.take ys.length = encs (Value.int .i64) ys) :
  Kd.R (Kd.int .i64) 3 W base (fun _ => True) (.slice (some ⟨g, 0, none⟩) ys.length cap) ys :=
 Kd.R_of_own ⟨by rw [encs_length, Nat.mul_one], .inr ⟨g, cap, cells, rfl, hb, hg, hn, hm, by rw [Nat.mul_one]; exact hs, by rw [Nat.mul_one]; exact ht⟩⟩ (fun _ _ => trivial)
theorem setCells_grown (W : World) (g o : Nat) (vs : List Value) : W.grownBy (W.setCells g o vs) (some g) := by
 obtain ⟨s1, s2, s3, s4⟩ := setCells_same g vs o W
 exact ⟨s1, s2, s3, by rw [s4]; exact Nat.le_refl _, fun k _ hk => setCells_far _ _ k (fun he => hk (by rw [he]))⟩
theorem insert_world (W : World) (base : Nat) (v : Value) (l : List Int) (p : Nat) (x : Int) (g2 : Nat) (hp : p ≤ l.length) (hl : l.length < 17592186044000) (hR : Kd.R (Kd.int .i64) 3 W base (fun _ => True) v l) (hb : base ≤ W.heap.size)
  (hlit : W.heap[g2]? = some (.cells #[.int .i64 x] 3 (0, 0))) (hne : v.ownBlock ≠ some g2) :
  Calls Try.prog 73 #[v, .int .i64 (p : Int), .slice (some ⟨g2, 0, none⟩) 1 1] W fun e w' => ∃ v', e = .returned v' ∧ Kd.R (Kd.int .i64) 3 w' base (fun _ => True) v' (l.take p ++ ([x] ++ l.drop p)) ∧ W.grownBy w' v.ownBlock := by
 have hown := Kd.own_of_R hR
 have hel : (encs (Value.int .i64) l).length = l.length := encs_length _
 have hlc : W.cell? ⟨g2, 0, none⟩ = some (.int .i64 x) := by rw [cell_of_row W g2 0 _ 3 (0, 0) hlit]; rfl
 have hvs : ∀ j v, [Value.int .i64 x][j]? = some v → W.cell? ⟨g2, 0 + j, none⟩ = some v := by
  intro j v hj
  match j, hj with
  | 0, hj => obtain rfl := Option.some.inj hj; exact hlc
  | j + 1, hj => simp at hj
 have h1v : ∀ v ∈ [Value.int .i64 x], v.oneCell' = true := by
  intro v hv
  rw [List.mem_singleton] at hv
  subst hv; rfl
 have h1c : ∀ v ∈ encs (Value.int .i64) l, v.oneCell' = true := by
  intro v hv
  simp only [encs, List.mem_map] at hv
  obtain ⟨q, _, rfl⟩ := hv; rfl
 have hyl : (l.take p ++ ([x] ++ l.drop p)).length = l.length + 1 := by simp; omega
 have hye : encs (Value.int .i64) (l.take p ++ ([x] ++ l.drop p)) = (encs (Value.int .i64) l).take p ++ ([Value.int .i64 x] ++ (encs (Value.int .i64) l).drop p) := by
  simp [encs, List.map_take, List.map_drop]
 have hgc := fun old => grownCap_ge W (l.length + 1) old 3
 have hgm := fun old => grownCap_le_maxLen W (l.length + 1) old 3 (by simp only [maxLen]; omega)
 rcases hown.2 with ⟨rfl, hn⟩ | ⟨g, cap, cur, rfl, hbg, hg, hnc, hcm, hcs, htake⟩
 ·have hl0 : l = [] := List.eq_nil_of_length_eq_zero hn
  subst hl0
  obtain rfl : p = 0 := by simpa using hp
  refine Calls.mono (Any2.slices_Insert_int_end_grow Try.lays21 none 0 0 g2 0 1 1 [] [.int .i64 x] W (by omega) (by omega) (by omega) (by omega) rfl rfl (fun _ => rfl) (fun a h => by cases h) hvs h1v) ?_
  rintro e w' ⟨rfl, rfl⟩
  refine ⟨_, rfl, ?_, ⟨rfl, rfl, rfl, by simp, fun k hk _ => heap_alloc_old W.drew _ hk⟩⟩
  have hz1 : (Value.int .i64 0).cells.size = 1 := rfl
  have h := R_new (base := base) (ys := [x]) (heap_alloc_new W.drew (.cells (([] ++ [Value.int .i64 x]).toArray ++ Builtin.zeroCells (Value.int .i64 0).cells (grownCap W (0 + 1) 0 3 - (0 + 1))) 3)) hb (hgc 0) (hgm 0) (by
   simp only [Array.size_append, List.size_toArray, size_zeroCells, hz1, List.nil_append, List.length_cons, List.length_nil]
   have := hgc 0
   simp only [List.length_nil] at this
   omega) (by simp [encs])
  exact h
 ·have hcs1 : cur.size = cap := by omega
  have hcl : cur.toList.length = cap := by rw [Array.length_toList, hcs1]
  rw [Nat.mul_one] at htake
  have hcell : ∀ j v, (encs (Value.int .i64) l)[j]? = some v → W.cell? ⟨g, 0 + j, none⟩ = some v := by
   intro j v hj
   rw [Nat.zero_add, cell_of_row W g j cur 3 (0, 0) hg]
   rw [← htake, List.getElem?_take] at hj
   split at hj
   ·rw [← Array.getElem?_toList]; exact hj
   ·cases hj
  have hsome : ∀ j, j < cap → (W.cell? ⟨g, j, none⟩).isSome = true := by
   intro j hj
   rw [cell_of_row W g j cur 3 (0, 0) hg]
   simp; omega
  have hfz : ∀ j, W.frozen? ⟨g, j, none⟩ = false := fun j => blk_frozen hg _
  have hgg : g2 ≠ g := fun h => hne (by rw [h]; rfl)
  by_cases hpn : p = l.length
  ·subst hpn
   have e1 : l.take l.length ++ ([x] ++ l.drop l.length) = l ++ [x] := by simp
   by_cases hroom : l.length + 1 ≤ cap
   ·refine Calls.mono (Any2.slices_Insert_int_end_room Try.lays21 g 0 l.length cap g2 0 1 1 [.int .i64 x] W (by omega) hroom (by simpa only [maxLen] using hcm) rfl (fun j hj => hsome _ (by omega)) (fun j _ => hfz _) hvs h1v) ?_
    rintro e w' ⟨rfl, rfl⟩
    refine ⟨_, rfl, ?_, setCells_grown W g _ _⟩
    obtain ⟨cur', h3, h4, h5⟩ := setCells_row [Value.int .i64 x] (0 + l.length) W cur hg (by simp; omega)
    have h := R_new (base := base) (cap := cap) (ys := l.take l.length ++ ([x] ++ l.drop l.length)) h3 hbg (by rw [hyl]; exact hroom) hcm (by rw [h4, hcs1]) (by
     rw [hyl, h5, hye, List.take_of_length_le (l := encs (Value.int .i64) l) (by omega), List.drop_of_length_le (l := encs (Value.int .i64) l) (by omega), Nat.zero_add, htake]
     exact List.take_left' (by simp [hel]))
    rw [hyl] at h
    exact h
   ·refine Calls.mono (Any2.slices_Insert_int_end_grow Try.lays21 (some ⟨g, 0, none⟩) l.length cap g2 0 1 1 (encs (Value.int .i64) l) [.int .i64 x] W (by omega) hnc (by omega) (by omega) hel rfl (fun h => by cases h) (fun a h j v hj => by obtain rfl := Option.some.inj h; have := hcell j v hj; rw [Nat.zero_add] at this; rw [add_plain]; exact this) hvs h1v) ?_
    rintro e w' ⟨rfl, rfl⟩
    refine ⟨_, rfl, ?_, ⟨rfl, rfl, rfl, by simp, fun k hk _ => heap_alloc_old W.drew _ hk⟩⟩
    have h := R_new (base := base) (ys := l.take l.length ++ ([x] ++ l.drop l.length)) (heap_alloc_new W.drew (.cells ((encs (Value.int .i64) l ++ [Value.int .i64 x]).toArray ++ Builtin.zeroCells (Value.int .i64 0).cells (grownCap W (l.length + 1) cap 3 - (l.length + 1))) 3)) hb (by rw [hyl]; exact hgc cap) (hgm cap) (by
      have hz1 : (Value.int .i64 0).cells.size = 1 := rfl
      simp only [Array.size_append, List.size_toArray, size_zeroCells, List.length_append, hel, hz1]
      have := hgc cap
      simp
      omega) (by
      rw [hyl, hye, List.take_of_length_le (l := encs (Value.int .i64) l) (by omega), List.drop_of_length_le (l := encs (Value.int .i64) l) (by omega), Array.toList_append]
      exact List.take_left' (by simp [hel]))
    rw [hyl] at h
    exact h
  ·have hplt : p < l.length := by omega
   by_cases hroom : l.length + 1 ≤ cap
   ·refine Calls.mono (Any2.slices_Insert_int_shift Try.lays21 g 0 l.length cap p g2 0 1 1 (encs (Value.int .i64) l) [.int .i64 x] W hplt (by omega) hroom (by simpa only [maxLen] using hcm) hgg hel rfl hcell (fun j hj => hsome _ (by omega)) (fun j _ => hfz _) hvs h1c h1v 3 3 1 cap (by simp [World.shape?, hlit]) (by simp [World.shape?, hg, hcs1]) (by omega) (blk_frozen hlit _) (blk_frozen hlit _)) ?_
    rintro e w' ⟨rfl, rfl⟩
    have hg1 : W.drew.heap[g]? = some (.cells cur 3 (0, 0)) := hg
    obtain ⟨cur1, h3, h4, h5⟩ := setCells_row ((encs (Value.int .i64) l).drop p) (0 + (p + 1)) W.drew cur hg1 (by simp [hel]; omega)
    obtain ⟨cur2, h6, h7, h8⟩ := setCells_row [Value.int .i64 x] (0 + p) _ cur1 h3 (by simp; omega)
    refine ⟨_, rfl, ?_, ?_⟩
    ·have h := R_new (base := base) (cap := cap) (ys := l.take p ++ ([x] ++ l.drop p)) h6 hbg (by rw [hyl]; exact hroom) hcm (by rw [h7, h4, hcs1]) (by
      rw [hyl, h8, h5, hye, Nat.zero_add, Nat.zero_add]
      exact ins_room cur.toList _ l.length p (.int .i64 x) htake hel (by omega) (by omega))
     rw [hyl] at h
     exact h
    ·have g1 : W.grownBy W.drew (some g) := ⟨rfl, rfl, rfl, Nat.le_refl _, fun _ _ _ => rfl⟩
     exact (g1.trans (setCells_grown _ g _ _)).trans (setCells_grown _ g _ _)
   ·refine Calls.mono (Any2.slices_Insert_int_grow Try.lays21 g 0 l.length cap p g2 0 1 1 (encs (Value.int .i64) l) [.int .i64 x] W hplt (by omega) hnc (by omega) (by omega) hel rfl hcell hvs h1c h1v) ?_
    rintro e w' ⟨rfl, rfl⟩
    have hn1 := heap_alloc_new W (.cells (((encs (Value.int .i64) l).take p).toArray ++ Builtin.zeroCells (Value.int .i64 0).cells (l.length + 1 - p) ++ Builtin.zeroCells (Value.int .i64 0).cells (grownCap W (l.length + 1) cap 3 - (l.length + 1))) 3)
    obtain ⟨gc, hgce⟩ : ∃ gc, grownCap W (l.length + 1) cap 3 = gc := ⟨_, rfl⟩
    have hgc1 := hgc cap
    have hgm1 := hgm cap
    have hg0 : ∀ (row : Option Nat) (c : Array Value), W.grownBy (W.alloc (.cells c 3)) row := fun row c => World.grownBy_alloc W _ row
    have hT : Try.lays21_ren.t 3 = 3 := rfl
    rw [hT, hgce]
    rw [hgce] at hn1 hgc1 hgm1
    obtain ⟨C0, hC0⟩ : ∃ C0 : Array Value, ((encs (Value.int .i64) l).take p).toArray ++ Builtin.zeroCells (Value.int .i64 0).cells (l.length + 1 - p) ++ Builtin.zeroCells (Value.int .i64 0).cells (gc - (l.length + 1)) = C0 := ⟨_, rfl⟩
    have hC0s : C0.size = gc := by
     rw [← hC0]
     simp only [Array.size_append, List.size_toArray, size_zeroCells, List.length_take, hel]
     have : (Value.int .i64 0).cells.size = 1 := rfl
     rw [this]
     omega
    have hC0t : C0.toList.take p = (encs (Value.int .i64) l).take p := by
     rw [← hC0, Array.append_assoc, Array.toList_append]
     exact List.take_left' (by rw [List.length_take]; omega)
    have hC0l : C0.toList.length = gc := by rw [Array.length_toList, hC0s]
    rw [hC0] at hn1
    rw [hC0]
    have hn2 : (W.alloc (.cells C0 3)).drew.heap[W.heap.size]? = some (.cells C0 3 (0, 0)) := hn1
    obtain ⟨cur1, h3, h4, h5⟩ := setCells_row [Value.int .i64 x] p _ C0 hn2 (by simp; omega)
    have h3' : ((W.alloc (.cells C0 3)).drew.setCells W.heap.size p [Value.int .i64 x]).drew.heap[W.heap.size]? = some (.cells cur1 3 (0, 0)) := h3
    obtain ⟨cur2, h6, h7, h8⟩ := setCells_row ((encs (Value.int .i64) l).drop p) (p + 1) _ cur1 h3' (by simp [hel]; omega)
    refine ⟨_, rfl, ?_, ?_⟩
    ·have h := R_new (base := base) (cap := gc) (ys := l.take p ++ ([x] ++ l.drop p)) h6 hb (by rw [hyl]; exact hgc1) hgm1 (by rw [h7, h4, hC0s]) (by
      rw [hyl, h8, h5, hye]
      exact ins_grow C0.toList _ l.length p (.int .i64 x) hC0t hel (by omega) (by omega))
     rw [hyl] at h
     exact h
    ·obtain ⟨s1, s2, s3, s4⟩ := setCells_same W.heap.size [Value.int .i64 x] p (W.alloc (.cells C0 3)).drew
     obtain ⟨t1, t2, t3, t4⟩ := setCells_same W.heap.size ((encs (Value.int .i64) l).drop p) (p + 1) ((W.alloc (.cells C0 3)).drew.setCells W.heap.size p [Value.int .i64 x]).drew
     refine ⟨t1.trans s1, t2.trans s2, t3.trans s3, ?_, fun k hk _ => ?_⟩
     ·rw [t4]; show _ ≤ ((W.alloc (.cells C0 3)).drew.setCells W.heap.size p [Value.int .i64 x]).heap.size; rw [s4]; show W.heap.size ≤ (W.alloc (.cells C0 3)).heap.size; simp
     ·rw [setCells_far _ _ k (by omega)]
      show ((W.alloc (.cells C0 3)).drew.setCells W.heap.size p [Value.int .i64 x]).heap[k]? = _
      rw [setCells_far _ _ k (by omega)]
      exact heap_alloc_old W _ hk
def swAtI (a0 a1 : Int) : Int := if Int.tmod (wrap64 (Int.tdiv a1 a0)) 2 = 0 then wrap64 (wrap64 (a0 - 1) - Int.tmod a1 a0) else Int.tmod a1 a0
def impl_swapped.f : Nat → Int → Int → Option (List Int)
 | 0, _, _ => none
 | k + 1, a0, a1 => if a0 = 0 then some [] else (impl_swapped.f k (wrap64 (a0 - 1)) (wrap64 (Int.tdiv a1 a0))).bind fun l => if 0 ≤ swAtI a0 a1 then (if swAtI a0 a1 ≤ (l.length : Int) then (if l.length < 17592186044000 then some (l.take (swAtI a0 a1).toNat ++ ([wrap64 (a0 - 1)] ++ l.drop (swAtI a0 a1).toNat)) else none) else none) else none
theorem impl_swapped.calls : ∀ (k : Nat) (a0 a1 : Int) (r : List Int) (w : World) (h : impl_swapped.f k a0 a1 = some r),
  Calls Try.prog 58 #[.int .i64 a0, .int .i64 a1] w fun e w' => ∃ v0_ : Value, e = .returned v0_ ∧ Kd.R (Kd.int .i64) 3 w' w.heap.size (fun _ => True) v0_ r ∧ Below w.heap.size w w'
 | 0, _, _, _, _, h => by simp [impl_swapped.f] at h
 | k + 1, a0, a1, r, w, h => by
  have IH := Aside0.mk (impl_swapped.calls k)
  rw [impl_swapped.f] at h
  by_cases c1 : a0 = 0
  ·rw [if_pos c1] at h
   obtain rfl := Option.some.inj h
   have c1b : (a0 == 0) = true := by simp [c1]
   go_enter Try.func58, Try.ntmps58
   go_wp2
   go_ret
   exact ⟨_, rfl, Kd.R_nil _ _ _ _ _, by repeat (first | exact Below.refl _ w | apply pw_below_drewN | apply below_drew1)⟩
  ·rw [if_neg c1] at h
   have c1b : (a0 == 0) = false := beq_eq_false_iff_ne.mpr c1
   have c1c : (a0 != 0) = true := bne_iff_ne.mpr c1
   obtain ⟨l, A1, H⟩ := Option.bind_eq_some_iff.mp h
   clear h
   have HP : Aside0 (∃ p : Nat, swAtI a0 a1 = (p : Int) ∧ p ≤ l.length ∧ l.length < 17592186044000 ∧ l.take p ++ ([wrap64 (a0 - 1)] ++ l.drop p) = r) := by
    by_cases c2 : 0 ≤ swAtI a0 a1
    ·rw [if_pos c2] at H
     by_cases c3 : swAtI a0 a1 ≤ (l.length : Int)
     ·rw [if_pos c3] at H
      by_cases c4 : l.length < 17592186044000
      ·rw [if_pos c4] at H
       obtain ⟨p, hp⟩ := Int.eq_ofNat_of_zero_le c2
       rw [hp] at H c3
       rw [Int.toNat_natCast] at H
       exact ⟨p, hp, by omega, c4, Option.some.inj H⟩
      ·rw [if_neg c4] at H; cases H
     ·rw [if_neg c3] at H; cases H
    ·rw [if_neg c2] at H; cases H
   clear H
   obtain ⟨p, hp, h1, h2, rfl⟩ := HP.out
   clear HP
   have HPL := Aside0.mk h1
   have HLL := Aside0.mk h2
   have HA1 := Aside0.mk A1
   clear h1 h2 A1
   unfold swAtI at hp
   have HINS : ∀ (W w1 : World) (v1 : Value) (N : Nat), Kd.R (Kd.int .i64) 3 w1 w.heap.size (fun _ => True) v1 l → Below w.heap.size w w1 → W = w1.alloc (.cells #[.int .i64 (wrap64 (a0 - 1))] 3) → N = w1.heap.size →
     Calls Try.prog 73 #[v1, .int .i64 (p : Int), .slice (some ⟨N, 0, none⟩) 1 1] W fun e w' => ∃ v', e = .returned v' ∧ Kd.R (Kd.int .i64) 3 w' w.heap.size (fun _ => True) v' (l.take p ++ ([wrap64 (a0 - 1)] ++ l.drop p)) ∧ Below w.heap.size w w' := by
    intro W w1 v1 N hR hb hW hN
    subst hW; subst hN
    have hb1 : w.heap.size ≤ w1.heap.size := hb.size
    have ho := Kd.own_of_R hR
    refine (insert_world (w1.alloc (.cells #[.int .i64 (wrap64 (a0 - 1))] 3)) w.heap.size v1 l p (wrap64 (a0 - 1)) w1.heap.size HPL.out HLL.out (Kd.R_alloc hR _) (by simp; omega) (heap_alloc_new w1 _) (fun h => by have := own_lt ho _ h; omega)).mono ?_
    rintro e w' ⟨v', rfl, hR', hg'⟩
    exact ⟨v', rfl, hR', (hb.alloc hb1 _).grown hg' (by simp; omega) (own_base ho)⟩
   have HINS := Aside0.mk HINS
   by_cases c5 : Int.tmod (wrap64 (Int.tdiv a1 a0)) 2 = 0
   ·rw [if_pos c5] at hp
    have c5b0 : (Int.tmod (wrap64 (Int.tdiv a1 a0)) 2 == 0) = true := beq_iff_eq.mpr c5
    clear c5
    go_enter Try.func58, Try.ntmps58
    go_wp2_with (first | (go_at_call 58; (with_reducible refine (IH.out _ _ l _ HA1.out).mono ?_); rintro e w1 ⟨v1, rfl, hR1, hb1⟩) | (go_at_call 73; refine (HINS.out _ w1 v1 _ hR1 hb1 rfl rfl).mono ?_; rintro e w3 ⟨v3, rfl, hR3, hb3⟩))
    go_ret
    exact ⟨_, rfl, hR3, hb3⟩
   ·rw [if_neg c5] at hp
    have c5b0 : (Int.tmod (wrap64 (Int.tdiv a1 a0)) 2 == 0) = false := beq_eq_false_iff_ne.mpr c5
    clear c5
    go_enter Try.func58, Try.ntmps58
    go_wp2_with (first | (go_at_call 58; (with_reducible refine (IH.out _ _ l _ HA1.out).mono ?_); rintro e w1 ⟨v1, rfl, hR1, hb1⟩) | (go_at_call 73; refine (HINS.out _ w1 v1 _ hR1 hb1 rfl rfl).mono ?_; rintro e w3 ⟨v3, rfl, hR3, hb3⟩))
    go_ret
    exact ⟨_, rfl, hR3, hb3⟩
def impl_SwappedAt.f (k : Nat) (a0 : Int) (a1 : Int) : Option (List Int × Bool) := (impl_isSwapped.f k a0 a1).bind fun t331 => (if t331 = true then ((impl_swapped.f k a0 a1).bind fun t332 => (some (t332, true))) else (some (([] : List Int), false)))
theorem impl_SwappedAt.calls (k : Nat) (a0 : Int) (a1 : Int) (r1 : List Int) (r2 : Bool) (w : World) (h : impl_SwappedAt.f k a0 a1 = some (r1, r2)) :
  Calls Try.prog 22 #[.int .i64 a0, .int .i64 a1] w fun e w' => ∃ v0_ : Value, e = .returned (.tuple #[v0_, .bool r2]) ∧ Kd.R (Kd.int .i64) 3 w' w.heap.size (fun _ => True) v0_ r1 ∧ Below w.heap.size w w' := by
 have HB := Aside0.mk (Below.refl w.heap.size w)
 unfold impl_SwappedAt.f at h
 have H := h
 clear h
 replace H := Option.bind_eq_some_iff.mp H
 obtain ⟨t331, A30, H⟩ := H
 try dsimp +instances only at H
 replace H := H
 have A3 := Aside0.mk A30
 clear A30
 by_cases c4 : t331 = true
 ·subst c4
  rw [if_pos rfl] at H
  have H1 := H
  clear H
  have H := H1
  clear H1
  replace H := Option.bind_eq_some_iff.mp H
  obtain ⟨t332, A50, H⟩ := H
  try dsimp +instances only at H
  replace H := H
  have A5 := Aside0.mk A50
  clear A50
  simp only [Option.some.injEq, Prod.mk.injEq] at H
  obtain ⟨rfl, rfl⟩ := H
  go_enter Try.func22, Try.ntmps22
  go_wp2_with (first | ((with_reducible refine gate_callee (f := 57) rfl ?_); refine goesL_ (some 8) rfl rfl Try.func57 (by kernel_rfl) rfl #[.int .i64 a0, .int .i64 a1] rfl (by (try simp only [List.map_toArray, List.map_cons, List.map_nil]); rfl) ?_; (with_reducible refine (impl_isSwapped.calls k a0 a1 true _ A3.out).mono ?_); rintro e w' ⟨rfl, ⟨nd, rfl⟩⟩; refine ⟨_, rfl, ?_⟩) | ((with_reducible refine gate_callee (f := 58) rfl ?_); refine goesL_ (some 12) rfl rfl Try.func58 (by kernel_rfl) rfl #[.int .i64 a0, .int .i64 a1] rfl (by (try simp only [List.map_toArray, List.map_cons, List.map_nil]); rfl) ?_; (with_reducible refine (impl_swapped.calls k a0 a1 t332 _ A5.out).mono ?_); rintro e w6 ⟨v333, rfl, ho0, hb⟩; refine ⟨_, rfl, ?_⟩; have n0_ := Aside0.mk (Kd.R_lower ho0 (below_size (by (apply pw_below_drewN; exact HB.out)))); have n1_ := Aside0.mk (below_step (by (apply pw_below_drewN; exact HB.out)) hb); clear HB; have HO334 := n0_; have HB := n1_; clear n0_ n1_; clear hb; clear ho0))
  go_ret2
  exact ⟨_, by rfl, HO334.out, HB.out⟩
 ·replace c4 := Bool.eq_false_iff.mpr c4
  subst c4
  rw [if_neg (show ¬ (false = true) by decide)] at H
  have H1 := H
  clear H
  have H := H1
  clear H1
  simp only [Option.some.injEq, Prod.mk.injEq] at H
  obtain ⟨rfl, rfl⟩ := H
  go_enter Try.func22, Try.ntmps22
  go_wp2_with (first | ((with_reducible refine gate_callee (f := 57) rfl ?_); refine goesL_ (some 8) rfl rfl Try.func57 (by kernel_rfl) rfl #[.int .i64 a0, .int .i64 a1] rfl (by (try simp only [List.map_toArray, List.map_cons, List.map_nil]); rfl) ?_; (with_reducible refine (impl_isSwapped.calls k a0 a1 false _ A3.out).mono ?_); rintro e w' ⟨rfl, ⟨nd, rfl⟩⟩; refine ⟨_, rfl, ?_⟩))
  go_ret2
  exact ⟨_, by rfl, by exact Kd.R_nil _ _ _ _ _, by (apply pw_below_drewN; exact HB.out)⟩
def spec_l1Own.f (l0 : List Int) : Option (List Int) := (some (([] : List Int) : List Int)).bind fun y335 => (if y335.length + l0.length < 17592186044416 then (some (y335 ++ l0)) else (none))
theorem spec_l1Own.calls (A0 : Option Addr) (c0 : Nat) (l0 : List Int) (r : List Int) (w : World) (hr0 : Kd.C (Kd.int .i64) w A0 l0.length l0) (hc0 : l0.length ≤ c0) (h : spec_l1Own.f l0 = some r) :
  Calls Try.prog 61 #[.slice A0 l0.length c0] w fun e w' => ∃ v0_ : Value, e = .returned (v0_) ∧ Kd.R (Kd.int .i64) 3 w' w.heap.size (fun _ => True) v0_ r ∧ Below w.heap.size w w' := by
 have HR0 := Aside0.mk hr0
 have HC0 := Aside0.mk hc0
 clear hr0 hc0
 have HB := Aside0.mk (Below.refl w.heap.size w)
 unfold spec_l1Own.f at h
 have H := h
 clear h
 obtain ⟨y335, hy335⟩ : ∃ y_ : List Int, y_ = (([] : List Int)) := ⟨_, rfl⟩
 replace H : (if y335.length + l0.length < 17592186044416 then (some (y335 ++ l0)) else (none)) = some r := by first | (rw [hy335]; with_reducible exact H) | (have H2_ := (Option.bind_some _ _).symm.trans H; rw [hy335]; with_reducible exact H2_) | (have H2_ := (Option.bind_some _ _).symm.trans H; with_reducible exact H2_) | with_reducible exact H | (rw [hy335]; exact H) | exact H
 have Ny335 := Aside0.mk hy335
 clear hy335
 by_cases c2 : y335.length + l0.length < 17592186044416
 ·rw [if_pos c2] at H
  have LMc2 := Aside0.mk c2
  clear c2
  obtain ⟨y338, hy338⟩ : ∃ y_ : List Int, y_ = (y335 ++ l0) := ⟨_, rfl⟩
  replace H : (some y338) = some r := by first | (rw [hy338]; with_reducible exact H) | (have H2_ := (Option.bind_some _ _).symm.trans H; rw [hy338]; with_reducible exact H2_) | (have H2_ := (Option.bind_some _ _).symm.trans H; with_reducible exact H2_) | with_reducible exact H | (rw [hy338]; exact H) | exact H
  have Ny338 := Aside0.mk hy338
  clear hy338
  obtain rfl := Option.some.inj H
  go_enter Try.func61, Try.ntmps61
  go_wp2_with (first | ((with_reducible refine gate_dst (N := 3) rfl ?_); refine Kd.R_lit (Kd.int .i64) _ 3 ?hg (N := 3) ?hd (xs := ([] : List Int)) (inner := []) (ok := fun _ => True) (okp := fun _ => True) ?hr ?hp (fun _ hk => hk) trivial (Below.refl _ _) (Nat.le_refl _) (by simp) ?_; (case hd => rfl); (case hg => rfl); (case hr => first | (go_simp; done) | (go_simp; rfl)); (case hp => exact (Reps.none _ _)); intro v336 w3 ho4 hb hg_ hnew_; clear hg_ hnew_; (first | rw [← Ny335.out] at ho4 | (simp only [Int.reduceToNat] at ho4; rw [← Ny335.out] at ho4)); have n0_ := Aside0.mk (Kd.R_lower ho4 (below_size (HB.out))); have n1_ := Aside0.mk (below_step (HB.out) hb); clear HB; have HO337 := n0_; have HB := n1_; clear n0_ n1_; clear hb ho4) | ((with_reducible refine gate_builtin (b := .append) (xs := #[.tmp 3, .tmp 4]) rfl ?_); at_builtin; refine Kd.R_append_rows (Kd.int .i64) (w0 := w) w.heap.size rfl (.tmp 3) (.tmp 4) 26 3 (.int .i64 0) 8 rfl Try.underlying26 info3 rfl (by decide) (by omega) v336 y335 l0 _ _ _ (fun _ => True) (fun _ => False) rfl rfl ?aO ?aR (fun _ _ h => h) (fun _ h => h.elim) ?aF ?aB ?aS ?aL ?_; (case aR => repeat (first | exact (Kd.C_below HR0.out HB.out) | (with_reducible refine Kd.C_alloc ?_ _) | (with_reducible refine Kd.C_drewN ?_ _) | (with_reducible refine Kd.C_drew ?_))); (case aB => exact (HB.out)); (case aF => exact (fun _ _ => trivial)); (case aO => exact (HO337.out)); (case aS => exact (below_size (HB.out))); (case aL => have := LMc2.out; omega); intro v339 w5 ho hb hg hat; rw [← Ny338.out] at ho; have n0_ := Aside0.mk (hb); have n1_ := Aside0.mk (ho); clear HB; clear HO337; have HB := n0_; have HO340 := n1_; clear n0_ n1_; clear ho hb hg hat))
  go_ret
  exact ⟨_, by rfl, HO340.out, HB.out⟩
 ·rw [if_neg c2] at H
  exact absurd H (by simp)
theorem app_ints {W : World} {base : Nat} {v : Value} {xs ys : List Int} {A : Option Addr} {m c : Nat} (ty : TypeId) (HO : Kd.R (Kd.int .i64) 3 W base (fun _ => True) v xs) (HR : Kd.C (Kd.int .i64) W A m ys) (hbase : base ≤ W.heap.size) (hl : xs.length + m < 17592186044416) :
  ∃ v1 w1, (Builtin.append_ #[26, 26] ty #[v, .slice A m c]).run Try.prog W = .ok v1 w1 ∧ Kd.R (Kd.int .i64) 3 w1 base (fun _ => True) v1 (xs ++ ys) ∧ W.grownBy w1 v.ownBlock := by
 obtain ⟨i0, hi, hz0, hz1, hz2⟩ := info_parts info3
 have hR := Kd.reads_of_C (enc := Value.int .i64) (d := (0 : Int)) (h1 := fun _ => rfl) HR
 have hm : ys.length = m := hR.1
 have hown := Kd.own_of_R HO
 have ht := Try.underlying26
 rcases A with _ | ad
 ·have h0 : m = 0 := by
   rcases Nat.eq_zero_or_pos m with h0 | h0
   ·exact h0
   ·obtain ⟨ad, h, _⟩ := hR.2.2 h0
    cases h
  subst h0
  obtain rfl : ys = [] := List.eq_nil_of_length_eq_zero hm
  refine ⟨v, W, ?_, by rw [List.append_nil]; exact HO, World.grownBy.refl W _⟩
  rcases hown.2 with ⟨rfl, hn⟩ | ⟨g, cap, cur, rfl, _, _, hnc, _⟩
  ·simp [Builtin.append_, run_underlying ht, sizeOf, typeInfo, hi, Builtin.lenOf, Builtin.firstCells]
  ·simp [Builtin.append_, run_underlying ht, sizeOf, typeInfo, hi, Builtin.lenOf, Builtin.firstCells, hnc, storeCells]
 ·have hnc : ∀ j u, (encs (Value.int .i64) ys)[j]? = some u → W.cell? (ad.add j) = some u := by
   intro j u hu
   have hj : j < ys.length := by
    rcases Nat.lt_or_ge j ys.length with h | h
    ·exact h
    ·rw [List.getElem?_eq_none (by rw [encs_length]; exact h)] at hu
     cases hu
   obtain ⟨ad', e, hc⟩ := hR.2.2 (by omega)
   obtain rfl := Option.some.inj e
   rw [encs_get (d := (0 : Int)) _ j hj] at hu
   rw [hc j (by omega), ← hu]
  obtain ⟨v1, w1, hrun, h2, hg, _, hat⟩ := run_append_own_at (P := Try.prog) W base 26 ty 3 i0 (.int .i64 0) 1 8 ht hi hz0 hz1 hz2 rfl (by decide) v xs.length (encs (Value.int .i64) xs) hown ad m c (encs (Value.int .i64) ys) (by rw [encs_length, hm, Nat.mul_one]) hnc (by intro u hu; simp only [encs, List.mem_map] at hu; obtain ⟨q, _, rfl⟩ := hu; rfl) (by simp only [maxLen]; omega) (by omega) hbase
  refine ⟨v1, w1, hrun, Kd.R_of_own ?_ (fun _ _ => trivial), hg⟩
  rw [encs_append, List.length_append, hm]
  exact h2
theorem step_append_runI {P : Program} {ops : Array Oper} {o : Oper} {a : Act} {w : World} {K : Act → World → Prop} {Q : Exit → Act → World → Prop} {E : Prop}
  (hg : o.guard = none) (d x : Operand) (dT sT : TypeId) (hop : o.op = Op.call { callee := Callee.builtin Builtin.append, args := #[d, x], argTypes := #[dT, sT] })
  (v u : Value) (hd : a.eval d = v) (hx : a.eval x = u) {v' : Value} {w' : World} (hr : (Builtin.append_ #[dT, sT] o.type #[v, u]).run P w = .ok v' w') (hK : K (a.put o.dst v') w') :
  if Region.wanted o (yielded ops a.tmps) = true then Oper.wp P o a w K Q else E := by
 have hw : Region.wanted o (yielded ops a.tmps) = true := by simp [Region.wanted, hg]
 rw [if_pos hw]
 unfold Oper.wp
 simp [execOp, hop, resolve, invoke, builtin, hd, hx, hr, Result.andThen]
 exact hK
theorem l1Own_some {l : List Int} (h : l.length < 17592186044416) : spec_l1Own.f l = some l := by
 unfold spec_l1Own.f
 rw [Option.bind_some, if_pos (by simpa using h), List.nil_append]
/-- the place of the greatest in a list of the order by swaps -/
def swAt (a0 a1 : Int) : Int := if Int.tmod (wrap64 (Int.tdiv a1 a0)) 2 = 0 then wrap64 (wrap64 (a0 - 1) - Int.tmod a1 a0) else Int.tmod a1 a0
def spec_nuSwapped.f : Nat → Int → Int → Option (List Int)
 | 0, _, _ => none
 | k + 1, a0, a1 => if a0 = 0 then some [] else (spec_nuSwapped.f k (wrap64 (a0 - 1)) (wrap64 (Int.tdiv a1 a0))).bind fun l => if 0 ≤ swAt a0 a1 then (if swAt a0 a1 ≤ (l.length : Int) then (if l.length < 17592186044000 then some ((l.take (swAt a0 a1).toNat ++ [wrap64 (a0 - 1)]) ++ l.drop (swAt a0 a1).toNat) else none) else none) else none
theorem lit_C (W : World) (x : Int) : Kd.C (Kd.int .i64) (W.alloc (.cells #[.int .i64 x] 3)) (some ⟨W.heap.size, 0, none⟩) 1 [x] := by
 have h : ReadsOf (Value.int .i64) (0 : Int) (W.alloc (.cells #[.int .i64 x] 3)) (some ⟨W.heap.size, 0, none⟩) 1 [x] := by
  refine ⟨rfl, by omega, fun _ => ⟨_, rfl, fun j hj => ?_⟩⟩
  obtain rfl : j = 0 := by omega
  rw [add_plain, cell_of_row _ _ _ _ _ _ (heap_alloc_new W _)]
  rfl
 exact Kd.C_of_reads h
theorem spec_nuSwapped.calls : ∀ (k : Nat) (a0 a1 : Int) (r : List Int) (w : World) (h : spec_nuSwapped.f k a0 a1 = some r),
  Calls Try.prog 59 #[.int .i64 a0, .int .i64 a1] w fun e w' => ∃ v0_ : Value, e = .returned v0_ ∧ Kd.R (Kd.int .i64) 3 w' w.heap.size (fun _ => True) v0_ r ∧ Below w.heap.size w w'
 | 0, _, _, _, _, h => by simp [spec_nuSwapped.f] at h
 | k + 1, a0, a1, r, w, h => by
  have IH := Aside0.mk (spec_nuSwapped.calls k)
  rw [spec_nuSwapped.f] at h
  by_cases c1 : a0 = 0
  ·rw [if_pos c1] at h
   obtain rfl := Option.some.inj h
   have c1b : (a0 == 0) = true := by simp [c1]
   go_enter Try.func59, Try.ntmps59
   go_wp2
   go_ret
   exact ⟨_, rfl, Kd.R_nil _ _ _ _ _, by repeat (first | exact Below.refl _ w | apply pw_below_drewN | apply below_drew1)⟩
  ·rw [if_neg c1] at h
   have c1b : (a0 == 0) = false := beq_eq_false_iff_ne.mpr c1
   have c1c : (a0 != 0) = true := bne_iff_ne.mpr c1
   obtain ⟨l, A1, H⟩ := Option.bind_eq_some_iff.mp h
   clear h
   have HP : Aside0 (∃ p : Nat, swAt a0 a1 = (p : Int) ∧ p ≤ l.length ∧ l.length < 17592186044000 ∧ (l.take p ++ [wrap64 (a0 - 1)]) ++ l.drop p = r) := by
    by_cases c2 : 0 ≤ swAt a0 a1
    ·rw [if_pos c2] at H
     by_cases c3 : swAt a0 a1 ≤ (l.length : Int)
     ·rw [if_pos c3] at H
      by_cases c4 : l.length < 17592186044000
      ·rw [if_pos c4] at H
       obtain ⟨p, hp⟩ := Int.eq_ofNat_of_zero_le c2
       rw [hp] at H c3
       rw [Int.toNat_natCast] at H
       exact ⟨p, hp, by omega, c4, Option.some.inj H⟩
      ·rw [if_neg c4] at H; cases H
     ·rw [if_neg c3] at H; cases H
    ·rw [if_neg c2] at H; cases H
   clear H
   obtain ⟨p, hp, h1, h2, rfl⟩ := HP.out
   clear HP
   have HPL := Aside0.mk h1
   have HLL := Aside0.mk h2
   have HA1 := Aside0.mk A1
   clear h1 h2 A1
   have HREG : ∀ (v1 : Value) (w1 : World), Kd.R (Kd.int .i64) 3 w1 w.heap.size (fun _ => True) v1 l → Below w.heap.size w w1 → True := fun _ _ _ _ => trivial
   clear HREG
   unfold swAt at hp
   by_cases c5 : Int.tmod (wrap64 (Int.tdiv a1 a0)) 2 = 0
   ·rw [if_pos c5] at hp
    have c5b0 : (Int.tmod (wrap64 (Int.tdiv a1 a0)) 2 == 0) = true := beq_iff_eq.mpr c5
    clear c5
    go_enter Try.func59, Try.ntmps59
    go_wp2_with (first | (go_at_call 59; (with_reducible refine (IH.out _ _ l _ HA1.out).mono ?_); rintro e w1 ⟨v1, rfl, hR1, hb1⟩; obtain ⟨A, c, rfl, hc, hC⟩ := Kd.R_reads hR1; have HR1 := Aside0.mk hR1; have HB := Aside0.mk hb1; have HC := Aside0.mk hC; have HCC := Aside0.mk hc; clear hR1 hb1 hC hc))
    obtain ⟨i0, hi0, _, hsz0, _⟩ := info_parts info3
    obtain ⟨q1, q2, q3⟩ := print_take_of (P := Try.prog) (Value.int .i64) 0 26 3 .i64 Try.underlying26 hi0 hsz0 A c l (p : Int) (by omega) (by have := HPL.out; omega) HCC.out
    obtain ⟨A', d1, d2, d3⟩ := print_drop_of (P := Try.prog) (Value.int .i64) 0 26 3 .i64 Try.underlying26 hi0 hsz0 A c l (p : Int) (by omega) (by have := HPL.out; omega) HCC.out
    rw [Int.toNat_natCast] at q1 q2 q3 d1 d2 d3
    have hlt : (l.take p).length = p := by rw [List.length_take]; have := HPL.out; omega
    have hld : (l.drop p).length = l.length - p := List.length_drop
    have HT := Kd.C_of_reads (h1 := fun _ => rfl) (q2 _ (Kd.reads_of_C HC.out))
    have HD := Kd.C_of_reads (h1 := fun _ => rfl) (d2 _ (Kd.reads_of_C HC.out))
    have HL1 : (l.take p).length + 1 < 17592186044416 := by rw [List.length_take]; have := HLL.out; omega
    have HL2 : (l.take p ++ [IntKind.i64.wrap (a0 - 1)]).length + (l.length - p) < 17592186044416 := by rw [List.length_append, List.length_take, List.length_singleton]; have := HLL.out; have := HPL.out; omega
    have HCALL : ∀ W, Below w1.heap.size w1 W → Calls Try.prog 61 #[.slice A p c] W fun e w' => ∃ v0_ : Value, e = .returned (v0_) ∧ Aside0 (Kd.R (Kd.int .i64) 3 w' w1.heap.size (fun _ => True) v0_ (l.take p)) ∧ Aside0 (Below w1.heap.size w1 w') ∧ Aside0 (Below W.heap.size W w') := by
     intro W hW
     have h := spec_l1Own.calls A c (l.take p) (l.take p) W (Kd.C_below HT hW) q3 (l1Own_some (by omega))
     rw [hlt] at h
     refine h.mono ?_
     rintro e w' ⟨v, rfl, h1, h2⟩
     exact ⟨v, rfl, ⟨Kd.R_lower h1 hW.size⟩, ⟨below_step hW h2⟩, ⟨h2⟩⟩
    rw [hld] at HD d1
    rw [hlt] at q1
    have HCALL := Aside0.mk HCALL
    have HD := Aside0.mk HD
    have HL1 := Aside0.mk HL1
    have HL2 := Aside0.mk HL2
    clear q2 q3 d2 d3 hi0 hsz0 hlt hld HT
    go_region_law (first
     | (refine goes_ Try.func61 (by kernel_rfl) rfl #[.slice A p c] (by simp [Region.wanted]) rfl rfl (by simp [Act.eval, Act.put]) ?_; refine (HCALL.out _ (by repeat (first | exact Below.refl _ w1 | apply below_alloc | apply pw_below_drewN | apply below_drew1))).mono ?_; rintro e w2 ⟨v2, rfl, HR2, HB2, Hb2⟩; refine ⟨_, rfl, ?_⟩)
     | (obtain ⟨v5, w5, hrun5, hR5, hg5⟩ := app_ints (W := w2.alloc (.cells #[.int .i64 (IntKind.i64.wrap (a0 - 1))] 3)) (base := w1.heap.size) (c := 1) 26 (Kd.R_alloc HR2.out _) (lit_C w2 (IntKind.i64.wrap (a0 - 1))) (by have := HB2.out.size; simp; omega) HL1.out; refine step_append_runI rfl (.tmp 30) (.tmp 33) 26 26 rfl v2 (.slice (some ⟨w2.heap.size, 0, none⟩) 1 1) (by simp [Act.put, Act.eval]) (by simp [Act.put, Act.eval]) hrun5 ?_; have HR5 := Aside0.mk hR5; have HB5 := Aside0.mk ((HB2.out.alloc HB2.out.size _).grown hg5 (by have := HB2.out.size; simp; omega) (own_base (Kd.own_of_R HR2.out))); clear hR5 hg5 hrun5)
     | (obtain ⟨v5, w5, hrun5, hR5, hg5⟩ := app_ints (W := w2) (base := w1.heap.size) (c := 1) 26 HR2.out (Kd.C_below (lit_C w1.drew (IntKind.i64.wrap (a0 - 1))) Hb2.out) HB2.out.size HL1.out; refine step_append_runI rfl (.tmp 30) (.tmp 33) 26 26 rfl v2 (.slice (some ⟨w1.heap.size, 0, none⟩) 1 1) (by simp [Act.put, Act.eval]) (by simp [Act.put, Act.eval]) hrun5 ?_; have HR5 := Aside0.mk hR5; have HB5 := Aside0.mk (HB2.out.grown hg5 HB2.out.size (own_base (Kd.own_of_R HR2.out))); clear hR5 hg5 hrun5)
     | (obtain ⟨v6, w6, hrun6, hR6, hg6⟩ := app_ints (W := w5) (base := w1.heap.size) (c := c - p) 26 HR5.out (Kd.C_below HD.out HB5.out) HB5.out.size HL2.out; refine step_append_runI rfl (.tmp 34) (.tmp 37) 26 26 rfl v5 (.slice A' (l.length - p) (c - p)) (by simp [Act.put, Act.eval]) (by simp [Act.put, Act.eval]) hrun6 ?_; have HR6 := Aside0.mk hR6; have HB6 := Aside0.mk (HB5.out.grown hg6 HB5.out.size (own_base (Kd.own_of_R HR5.out))); clear hR6 hg6 hrun6))
    all_goals go_wp2
    all_goals go_ret
    all_goals (rw [← i64_w]; exact ⟨_, rfl, Kd.R_lower HR6.out HB.out.size, below_step HB.out HB6.out⟩)
   ·rw [if_neg c5] at hp
    have c5b0 : (Int.tmod (wrap64 (Int.tdiv a1 a0)) 2 == 0) = false := beq_eq_false_iff_ne.mpr c5
    clear c5
    go_enter Try.func59, Try.ntmps59
    go_wp2_with (first | (go_at_call 59; (with_reducible refine (IH.out _ _ l _ HA1.out).mono ?_); rintro e w1 ⟨v1, rfl, hR1, hb1⟩; obtain ⟨A, c, rfl, hc, hC⟩ := Kd.R_reads hR1; have HR1 := Aside0.mk hR1; have HB := Aside0.mk hb1; have HC := Aside0.mk hC; have HCC := Aside0.mk hc; clear hR1 hb1 hC hc))
    obtain ⟨i0, hi0, _, hsz0, _⟩ := info_parts info3
    obtain ⟨q1, q2, q3⟩ := print_take_of (P := Try.prog) (Value.int .i64) 0 26 3 .i64 Try.underlying26 hi0 hsz0 A c l (p : Int) (by omega) (by have := HPL.out; omega) HCC.out
    obtain ⟨A', d1, d2, d3⟩ := print_drop_of (P := Try.prog) (Value.int .i64) 0 26 3 .i64 Try.underlying26 hi0 hsz0 A c l (p : Int) (by omega) (by have := HPL.out; omega) HCC.out
    rw [Int.toNat_natCast] at q1 q2 q3 d1 d2 d3
    have hlt : (l.take p).length = p := by rw [List.length_take]; have := HPL.out; omega
    have hld : (l.drop p).length = l.length - p := List.length_drop
    have HT := Kd.C_of_reads (h1 := fun _ => rfl) (q2 _ (Kd.reads_of_C HC.out))
    have HD := Kd.C_of_reads (h1 := fun _ => rfl) (d2 _ (Kd.reads_of_C HC.out))
    have HL1 : (l.take p).length + 1 < 17592186044416 := by rw [List.length_take]; have := HLL.out; omega
    have HL2 : (l.take p ++ [IntKind.i64.wrap (a0 - 1)]).length + (l.length - p) < 17592186044416 := by rw [List.length_append, List.length_take, List.length_singleton]; have := HLL.out; have := HPL.out; omega
    have HCALL : ∀ W, Below w1.heap.size w1 W → Calls Try.prog 61 #[.slice A p c] W fun e w' => ∃ v0_ : Value, e = .returned (v0_) ∧ Aside0 (Kd.R (Kd.int .i64) 3 w' w1.heap.size (fun _ => True) v0_ (l.take p)) ∧ Aside0 (Below w1.heap.size w1 w') ∧ Aside0 (Below W.heap.size W w') := by
     intro W hW
     have h := spec_l1Own.calls A c (l.take p) (l.take p) W (Kd.C_below HT hW) q3 (l1Own_some (by omega))
     rw [hlt] at h
     refine h.mono ?_
     rintro e w' ⟨v, rfl, h1, h2⟩
     exact ⟨v, rfl, ⟨Kd.R_lower h1 hW.size⟩, ⟨below_step hW h2⟩, ⟨h2⟩⟩
    rw [hld] at HD d1
    rw [hlt] at q1
    have HCALL := Aside0.mk HCALL
    have HD := Aside0.mk HD
    have HL1 := Aside0.mk HL1
    have HL2 := Aside0.mk HL2
    clear q2 q3 d2 d3 hi0 hsz0 hlt hld HT
    go_region_law (first
     | (refine goes_ Try.func61 (by kernel_rfl) rfl #[.slice A p c] (by simp [Region.wanted]) rfl rfl (by simp [Act.eval, Act.put]) ?_; refine (HCALL.out _ (by repeat (first | exact Below.refl _ w1 | apply below_alloc | apply pw_below_drewN | apply below_drew1))).mono ?_; rintro e w2 ⟨v2, rfl, HR2, HB2, Hb2⟩; refine ⟨_, rfl, ?_⟩)
     | (obtain ⟨v5, w5, hrun5, hR5, hg5⟩ := app_ints (W := w2.alloc (.cells #[.int .i64 (IntKind.i64.wrap (a0 - 1))] 3)) (base := w1.heap.size) (c := 1) 26 (Kd.R_alloc HR2.out _) (lit_C w2 (IntKind.i64.wrap (a0 - 1))) (by have := HB2.out.size; simp; omega) HL1.out; refine step_append_runI rfl (.tmp 30) (.tmp 33) 26 26 rfl v2 (.slice (some ⟨w2.heap.size, 0, none⟩) 1 1) (by simp [Act.put, Act.eval]) (by simp [Act.put, Act.eval]) hrun5 ?_; have HR5 := Aside0.mk hR5; have HB5 := Aside0.mk ((HB2.out.alloc HB2.out.size _).grown hg5 (by have := HB2.out.size; simp; omega) (own_base (Kd.own_of_R HR2.out))); clear hR5 hg5 hrun5)
     | (obtain ⟨v5, w5, hrun5, hR5, hg5⟩ := app_ints (W := w2) (base := w1.heap.size) (c := 1) 26 HR2.out (Kd.C_below (lit_C w1.drew (IntKind.i64.wrap (a0 - 1))) Hb2.out) HB2.out.size HL1.out; refine step_append_runI rfl (.tmp 30) (.tmp 33) 26 26 rfl v2 (.slice (some ⟨w1.heap.size, 0, none⟩) 1 1) (by simp [Act.put, Act.eval]) (by simp [Act.put, Act.eval]) hrun5 ?_; have HR5 := Aside0.mk hR5; have HB5 := Aside0.mk (HB2.out.grown hg5 HB2.out.size (own_base (Kd.own_of_R HR2.out))); clear hR5 hg5 hrun5)
     | (obtain ⟨v6, w6, hrun6, hR6, hg6⟩ := app_ints (W := w5) (base := w1.heap.size) (c := c - p) 26 HR5.out (Kd.C_below HD.out HB5.out) HB5.out.size HL2.out; refine step_append_runI rfl (.tmp 34) (.tmp 37) 26 26 rfl v5 (.slice A' (l.length - p) (c - p)) (by simp [Act.put, Act.eval]) (by simp [Act.put, Act.eval]) hrun6 ?_; have HR6 := Aside0.mk hR6; have HB6 := Aside0.mk (HB5.out.grown hg6 HB5.out.size (own_base (Kd.own_of_R HR5.out))); clear hR6 hg6 hrun6))
    all_goals go_wp2
    all_goals go_ret
    all_goals (rw [← i64_w]; exact ⟨_, rfl, Kd.R_lower HR6.out HB.out.size, below_step HB.out HB6.out⟩)
end Go.Proofs.Ytcgilnmljflebaa.A
