-- written by a program of this session's over the kit's print (xp.py)
import Derived.Test.YtcgilnmljflebaaAx0
import Derived.Test.YtcgilnmljflebaaAx1
import Derived.Test.YtcgilnmljflebaaAx2
import Derived.Test.YtcgilnmljflebaaAx3
import Derived.Test.YtcgilnmljflebaaAx4
import Derived.Test.YtcgilnmljflebaaAx5
import Derived.Test.YtcgilnmljflebaaAx6
import Derived.Test.YtcgilnmljflebaaAx7
import Derived.Test.YtcgilnmljflebaaAx8
import Derived.Test.YtcgilnmljflebaaAx9
import Derived.Test.YtcgilnmljflebaaAx10
import Derived.Test.YtcgilnmljflebaaAx11
import Derived.Test.YtcgilnmljflebaaAx12
import Derived.Test.YtcgilnmljflebaaAx13
import Derived.Test.YtcgilnmljflebaaAx14
-- halved
namespace Go.Proofs.Ytcgilnmljflebaa.A
-- slim
set_option maxHeartbeats 8000000
set_option maxRecDepth 100000
open Go.RowKit Go.Proofs.YtcgilnmljflebaaW.PrintWords Go.Proofs.YtcgilnmljflebaaW.PrintLast Go.Proofs.YtcgilnmljflebaaW.PrintMore
attribute [local go_sem] max2_int min2_int max_two min_two max_three min_three max_four min_four   -- for this text's walks alone
set_option linter.unusedVariables false
set_option linter.unusedSimpArgs false
def laws_FnOrdersChange.c0 : PSigma fun P0_ : Prop => Hole P0_ → (∀ (k : Nat) (A0 : Option Addr) (c0 : Nat) (l0 : List Int) (A1 : Option Addr) (c1 : Nat) (l1 : List Int) (r : Bool) (w : World) (hr0 : Kd.C (Kd.int .u8) w A0 l0.length l0) (hc0 : l0.length ≤ c0) (hr1 : Kd.C (Kd.int .u8) w A1 l1.length l1) (hc1 : l1.length ≤ c1) (h : laws_FnOrdersChange.f k l0 l1 = some r), Calls Try.prog 3 #[.slice A0 l0.length c0, .slice A1 l1.length c1] w fun e w' => e = .returned (.bool r) ∧ Below w.heap.size w w') := by
 refine' ⟨_, fun HP0_ => _⟩
 rotate_left 1
 intro k A0 c0 l0 A1 c1 l1 r w hr0 hc0 hr1 hc1 h
 have HR0 := Aside0.mk hr0
 have HC0 := Aside0.mk hc0
 clear hr0 hc0
 have HR1 := Aside0.mk hr1
 have HC1 := Aside0.mk hc1
 clear hr1 hc1
 have HB := Aside0.mk (Below.refl w.heap.size w)
 unfold laws_FnOrdersChange.f at h
 have H := h
 clear h
 replace H := Option.bind_eq_some_iff.mp H
 obtain ⟨t529, A30, H⟩ := H
 try dsimp +instances only at H
 replace H := H
 have A3 := Aside0.mk A30
 clear A30
 by_cases c4 : t529 = true
 ·subst c4
  rw [if_pos rfl] at H
  have H1 := H
  clear H
  have H := H1
  clear H1
  obtain rfl := Option.some.inj H
  go_enter Try.func3, Try.ntmps3
  try dsimp only [List.append]
  go_wp2_with (first | ((with_reducible refine gate_callee (f := 4) rfl ?_); refine goesL_ (some 85) rfl rfl Try.func4 (by kernel_rfl) rfl #[.slice A0 l0.length c0, .slice A1 l1.length c1] rfl (by (try simp only [List.map_toArray, List.map_cons, List.map_nil]); rfl) ?_; (with_reducible refine (laws_big.calls _ _ l0 _ _ l1 true _ ?side1 ?side2 ?side3 ?side4 A3.out).mono ?_); (case side1 => exact HR0.out); (case side2 => exact HC0.out); (case side3 => exact HR1.out); (case side4 => exact HC1.out); rintro e w' ⟨rfl, ⟨nd, rfl⟩⟩; refine ⟨_, rfl, ?_⟩))
  go_ret
  exact ⟨by rfl, by (apply pw_below_drewN; exact HB.out)⟩
 ·replace c4 := Bool.eq_false_iff.mpr c4
  subst c4
  rw [if_neg (show ¬ (false = true) by decide)] at H
  have H1 := H
  clear H
  have H := H1
  clear H1
  replace H := Option.bind_eq_some_iff.mp H
  obtain ⟨⟨t530, t531⟩, A50, H⟩ := H
  try dsimp +instances only at H
  replace H := H
  have A5 := Aside0.mk A50
  clear A50
  replace H := Option.bind_eq_some_iff.mp H
  obtain ⟨⟨t532, t533⟩, A60, H⟩ := H
  try dsimp +instances only at H
  replace H := H
  have A6 := Aside0.mk A60
  clear A60
  replace H := Option.bind_eq_some_iff.mp H
  obtain ⟨⟨t536, t537⟩, A70, H⟩ := H
  try dsimp +instances only at H
  replace H := H
  have A7 := Aside0.mk A70
  clear A70
  have HC8 := Aside0.mk H
  clear H
  go_enter Try.func3, Try.ntmps3
  try dsimp only [List.append]
  go_upto_region 6 with (first | ((with_reducible refine gate_callee (f := 4) rfl ?_); refine goesL_ (some 85) rfl rfl Try.func4 (by kernel_rfl) rfl #[.slice A0 l0.length c0, .slice A1 l1.length c1] rfl (by (try simp only [List.map_toArray, List.map_cons, List.map_nil]); rfl) ?_; (with_reducible refine (laws_big.calls _ _ l0 _ _ l1 false _ ?side1 ?side2 ?side3 ?side4 A3.out).mono ?_); (case side1 => exact HR0.out); (case side2 => exact HC0.out); (case side3 => exact HR1.out); (case side4 => exact HC1.out); rintro e w' ⟨rfl, ⟨nd, rfl⟩⟩; refine ⟨_, rfl, ?_⟩) | ((with_reducible refine gate_callee (f := 5) rfl ?_); refine goesL_ (some 88) rfl rfl Try.func5 (by kernel_rfl) rfl #[.slice A0 l0.length c0] rfl (by (try simp only [List.map_toArray, List.map_cons, List.map_nil]); rfl) ?_; (with_reducible refine (spec_DrawSetAt.calls _ _ l0 t530 t531 _ ?side1 ?side2 A5.out).mono ?_); (case side1 => exact HR0.out); (case side2 => exact HC0.out); rintro e w9 ⟨rfl, hb⟩; refine ⟨_, rfl, ?_⟩; have n0_ := Aside0.mk (below_step (by (apply pw_below_drewN; exact HB.out)) hb); clear HB; have HB := n0_; clear n0_; clear hb; (try clear hi)) | ((with_reducible refine gate_callee (f := 6) rfl ?_); refine goesL_ (some 94) rfl rfl Try.func6 (by kernel_rfl) rfl #[.int .i64 t530, .int .i64 t531] rfl (by (try simp only [List.map_toArray, List.map_cons, List.map_nil]); rfl) ?_; (with_reducible refine (impl_SetAt.calls k t530 t531 t532 t533 _ A6.out).mono ?_); rintro e w10 ⟨v534, rfl, ho0, hb⟩; refine ⟨_, rfl, ?_⟩; have n0_ := Aside0.mk (Kd.R_lower ho0 (below_size (HB.out))); have n1_ := Aside0.mk (below_step (HB.out) hb); clear HB; have HO535 := n0_; have HB := n1_; clear n0_ n1_; clear hb; clear ho0) | ((with_reducible refine gate_callee (f := 7) rfl ?_); refine goesL_ (some 100) rfl rfl Try.func7 (by kernel_rfl) rfl #[.int .i64 t530, .int .i64 t531] rfl (by (try simp only [List.map_toArray, List.map_cons, List.map_nil]); rfl) ?_; (with_reducible refine (spec_SetAt.calls k t530 t531 t536 t537 _ A7.out).mono ?_); rintro e w11 ⟨v538, rfl, ho0, hb⟩; refine ⟨_, rfl, ?_⟩; have n0_ := Aside0.mk (Kd.R_elder' (HO535.out) (Kd.R_base ho0) hb); have n1_ := Aside0.mk (Kd.R_lower (Kd.R_new' ho0 (Kd.R_lt (HO535.out))) (below_size (HB.out))); have n2_ := Aside0.mk (below_step (HB.out) hb); clear HO535; clear HB; have HO535 := n0_; have HO539 := n1_; have HB := n2_; clear n0_ n1_ n2_; clear hb; clear ho0))
  (try simp only [Act.put, List.setIfInBounds_toArray, List.set_cons_zero, List.set_cons_succ])
  refine wp_cutF [o_,o_,o_,o_,o_,o_,o_,o_,o_,o_,o_,o_,o_,o_,o_,o_,o_,o_,o_,o_,o_,o_,o_,o_,o_,o_,o_,o_,o_,o_,o_,o_,o_,o_,o_,o_,o_,o_,o_,o_,o_,o_,o_,o_,o_,o_,o_,o_,o_,o_,o_,o_,o_,o_,o_,o_,o_,o_,o_,o_,o_,o_,o_,o_,o_,o_,o_,o_,o_,o_,o_,o_,o_,o_,o_,o_,o_,o_,o_,o_,o_,o_,o_,i_,i_,i_,i_,i_,i_,i_,i_,i_,i_,i_,i_,i_,i_,i_,i_,i_,i_,i_,i_,i_,i_,i_,i_,i_,i_,i_,i_,i_,i_,i_,i_,i_,i_,i_,i_,i_,i_,i_,i_,i_,i_,i_,i_,i_,i_,i_,i_,i_,i_,i_,i_,i_,i_,i_,i_,i_,i_,i_,i_,i_,i_,i_,i_,i_,i_,i_,i_,i_,i_,i_,i_,i_,i_,i_,i_,i_,i_,i_,i_,i_,i_,i_,i_,i_,i_,i_,i_,i_,i_,i_,i_,i_,i_,i_,i_,i_,i_,i_,i_,i_,i_,i_,i_,i_,i_,i_,i_,i_,i_,i_,i_,i_,i_,i_,i_,i_,i_,i_,i_,i_,i_,i_,i_,i_,i_,i_,i_,i_,i_,i_,i_,i_,i_,i_,i_,i_,i_,i_,i_,i_,i_,i_,i_,i_,i_,i_,i_,i_,i_,i_,i_,i_,i_,i_,i_,i_,i_,i_,i_,i_,i_,i_,i_,i_,i_,i_,i_,i_,i_,i_,i_,i_,i_,i_,i_,i_,i_,i_,i_,i_,i_,i_,i_,i_,i_,i_,i_,i_,i_,i_,i_,i_,i_,i_,i_,i_,i_,i_,i_,i_,i_,i_,i_,i_,i_,i_,i_,i_,i_,i_,i_,i_,i_,i_,i_,i_,i_,i_,i_,i_,i_,i_,i_,i_,i_,i_,i_,i_,i_,i_,i_,i_,i_,i_,i_,i_,i_,i_,i_,i_,i_,i_,i_,i_,i_,i_,i_,i_,i_,i_,i_,i_,i_,i_,i_,i_,i_,i_,i_,i_,i_,i_,i_,i_,i_,i_,i_,i_,i_,i_,i_,i_,i_,i_,i_,i_,i_,i_,i_,i_,i_,i_,i_,i_,i_,i_,i_,i_,i_,i_,i_,i_,i_,i_,i_,i_,i_,i_,i_,i_,i_,i_,i_,i_,i_,i_,i_,i_,i_,i_,i_,i_,i_,i_,i_,i_,i_,i_,i_,i_,i_,i_,i_,i_,i_,i_,i_,i_,i_,i_,i_,i_,i_,i_,i_,i_,i_,i_,i_,i_,i_,i_,i_,i_,i_,i_,i_,i_,i_,i_,i_,i_,i_,i_,i_,i_,i_,i_,i_,i_,i_,i_,i_,i_,i_,i_,i_,i_,i_,i_,i_,i_,i_,i_,i_,i_,i_,i_,i_,i_,i_,i_,i_,i_,i_,i_,i_,i_,i_,i_,i_,i_,i_,i_,i_,i_,i_,i_,i_,i_,i_,i_,i_,i_,i_,i_,i_,i_,i_,i_,i_,i_,i_,i_,i_,i_,i_,i_,i_,i_,i_,i_,i_,i_,i_,i_,i_,i_,i_,i_,i_,i_,i_,i_,i_,i_,i_,i_,i_,i_,i_,i_,i_,i_,i_,i_,i_,i_,i_,i_,i_,i_,i_,i_,i_,i_,i_,i_,i_,i_,i_,i_,i_,i_,i_,i_,i_,i_,i_,i_,i_,i_,i_,i_,i_,i_,i_,i_,i_,i_,i_,i_,i_,i_,i_,i_,i_,i_,i_,i_,i_,i_,i_,i_,i_,i_,i_,i_,i_,i_,i_,i_,i_,i_,i_,i_,i_,i_,i_,i_,i_,i_,i_,i_,i_,i_,i_,i_,i_,i_,i_] (fun f_ wc => ∃ (kq : Nat) (x111_7 : Bool), (f_ 111) = .bool x111_7 ∧ Aside0 (laws_FnOrdersChange.j0 kq l1 t530 t531 t532 t533 x111_7 = some r) ∧ Aside0 (kq ≤ k) ∧ Aside0 (Kd.R (Kd.int .i64) 3 wc w.heap.size (fun _ => True) v534 t532) ∧ Aside0 (Below w.heap.size w wc)) ?rest ?first
  case first =>
   intro J_ K_ hJ_ hK_
   have H := HC8.out
   clear HC8
   by_cases c12 : (t533 != t537) = true
   ·rw [if_pos c12] at H
    have c12b0 : (t533 != t537) = true := c12
    (try (have c12b1 : decide (t533 = t537) = false := by simpa using c12))
    (try (have c12b2 : (t533 == t537) = false := by simpa using c12))
    (try (have c12b3 : ¬ (t533 = t537) := by simpa using c12))
    clear c12
    (first | rw [c12b0] | (simp only [i64_w, i32_w]; rw [c12b0]) | skip)
    have H' := Aside0.mk H
    clear H
    go_wp2
    refine Met.intro (hJ_ _ _ ?mg_ ?rel)
    case mg_ => kernel_rfl
    case rel => exact ⟨_, (true), (by rfl), H', ⟨by omega⟩, ⟨by exact Kd.R_mono HO535.out (fun _ hk => trivial)⟩, ⟨HB.out⟩⟩
   ·rw [if_neg c12] at H
    have c12b0 : (t533 != t537) = false := by simpa using c12
    (try (have c12b1 : decide (t533 = t537) = true := by simpa using c12))
    (try (have c12b2 : (t533 == t537) = true := by simpa using c12))
    clear c12
    (try (have c12e : t533 = t537 := by first | simpa using c12b0 | (simpa using (bne_eq_false_iff_eq.mp c12b0).symm)); (subst c12e))
    (first | rw [c12b0] | (simp only [i64_w, i32_w]; rw [c12b0]) | skip)
    replace H := Option.bind_eq_some_iff.mp H
    obtain ⟨t540, A130, H⟩ := H
    try dsimp +instances only at H
    replace H := H
    have A13 := Aside0.mk A130
    clear A130
    have H' := Aside0.mk H
    clear H
    obtain ⟨Ao14, co14, eo14⟩ := Kd.R_slice HO535.out
    subst eo14
    obtain ⟨Ao15, co15, eo15⟩ := Kd.R_slice HO539.out
    subst eo15
    go_wp2_with (first | (go_at_call 8; (with_reducible refine (laws_xSame.calls k _ _ t532 _ _ t536 t540 _ ?side1 ?side2 ?side3 ?side4 A13.out).mono ?_); (case side1 => exact (Kd.R_reads' HO535.out).2.2); (case side2 => exact (Kd.R_reads' HO535.out).2.1); (case side3 => exact (Kd.R_reads' HO539.out).2.2); (case side4 => exact (Kd.R_reads' HO539.out).2.1); rintro e w' ⟨rfl, ⟨nd, rfl⟩⟩))
    refine Met.intro (hJ_ _ _ ?mg_ ?rel)
    case mg_ => kernel_rfl
    case rel => exact ⟨_, (!t540), (by rfl), H', ⟨by omega⟩, ⟨by apply Kd.R_drewN; exact Kd.R_mono HO535.out (fun _ hk => trivial)⟩, ⟨by (apply pw_below_drewN; exact HB.out)⟩⟩
  case rest =>
   intro f_ wc hcut
   dsimp only [maskF] at hcut ⊢
   generalize f_ 111 = u111 at hcut ⊢
   repeat revert ‹_›
   intro HP0_
   exact HP0_.out
def laws_FnOrdersChange.c1 : PSigma fun P0_ : Prop => PSigma fun P1_ : Prop => Hole P0_ → Hole P1_ → laws_FnOrdersChange.c0.1 := by
 refine' ⟨_, _, fun HP0_ HP1_ => _⟩
 rotate_left 2
 intro k A0 c0 l0 A1 c1 l1 r w HR0 HC0 HR1 HC1 A3 t530 t531 A5 t532 t533 A6 t536 t537 A7 HC8 _ nd _ w9 w10 v534 w11 v538 HO535 HO539 HB _ _ _ _ f_ wc u111 hcut
 clear HC8
 try clear c1
 try clear p2
 try clear c3
 try clear c4
 try clear c5
 try clear c6
 try clear c7
 try clear c12
 try clear c12b0
 try clear c12b1
 try clear c12b2
 obtain ⟨kq, x111_7, rfl, HA, HJ7, HO_7, HB⟩ := hcut
 cases kq with
 | zero => exact absurd HA.out (by simp [laws_FnOrdersChange.j0])
 | succ kj7 =>
  have H := HA.out
  clear HA
  simp only [laws_FnOrdersChange.j0] at H
  by_cases c16 : x111_7 = true
  ·subst c16
   rw [if_pos rfl] at H
   have H1 := H
   clear H
   have H := H1
   clear H1
   obtain rfl := Option.some.inj H
   go_wp2
   go_ret
   exact ⟨by rfl, HB.out⟩
  ·replace c16 := Bool.eq_false_iff.mpr c16
   subst c16
   rw [if_neg (show ¬ (false = true) by decide)] at H
   have H1 := H
   clear H
   have H := H1
   clear H1
   have HC17 := Aside0.mk H
   clear H
   go_upto_if 112 with (fail)
   refine wp_cutF [o_,o_,o_,o_,i_,o_,o_,o_,o_,o_,o_,i_,i_,i_,i_,o_,o_,o_,o_,o_,o_,o_,o_,o_,o_,o_,o_,o_,o_,o_,o_,o_,o_,o_,o_,o_,o_,o_,o_,o_,o_,o_,o_,o_,o_,o_,o_,o_,o_,o_,o_,o_,o_,o_,o_,o_,o_,o_,o_,o_,o_,o_,o_,o_,o_,o_,o_,o_,o_,o_,o_,o_,o_,o_,o_,o_,o_,o_,o_,o_,o_,o_,o_,i_,i_,i_,i_,i_,i_,i_,i_,i_,i_,i_,i_,i_,i_,i_,i_,i_,i_,i_,i_,i_,i_,i_,i_,i_,i_,i_,i_,i_,i_,i_,i_,i_,i_,i_,i_,i_,i_,i_,i_,i_,i_,i_,i_,i_,i_,i_,i_,i_,i_,i_,i_,i_,i_,i_,i_,i_,i_,i_,i_,i_,i_,i_,i_,i_,i_,i_,i_,i_,i_,i_,i_,i_,i_,i_,i_,i_,i_,i_,i_,i_,i_,i_,i_,i_,i_,i_,i_,i_,i_,i_,i_,i_,i_,i_,i_,i_,i_,i_,i_,i_,i_,i_,i_,i_,i_,i_,i_,i_,i_,i_,i_,i_,i_,i_,i_,i_,i_,i_,i_,i_,i_,i_,i_,i_,i_,i_,i_,i_,i_,i_,i_,i_,i_,i_,i_,i_,i_,i_,i_,i_,i_,i_,i_,i_,i_,i_,i_,i_,i_,i_,i_,i_,i_,i_,i_,i_,i_,i_,i_,i_,i_,i_,i_,i_,i_,i_,i_,i_,i_,i_,i_,i_,i_,i_,i_,i_,i_,i_,i_,i_,i_,i_,i_,i_,i_,i_,i_,i_,i_,i_,i_,i_,i_,i_,i_,i_,i_,i_,i_,i_,i_,i_,i_,i_,i_,i_,i_,i_,i_,i_,i_,i_,i_,i_,i_,i_,i_,i_,i_,i_,i_,i_,i_,i_,i_,i_,i_,i_,i_,i_,i_,i_,i_,i_,i_,i_,i_,i_,i_,i_,i_,i_,i_,i_,i_,i_,i_,i_,i_,i_,i_,i_,i_,i_,i_,i_,i_,i_,i_,i_,i_,i_,i_,i_,i_,i_,i_,i_,i_,i_,i_,i_,i_,i_,i_,i_,i_,i_,i_,i_,i_,i_,i_,i_,i_,i_,i_,i_,i_,i_,i_,i_,i_,i_,i_,i_,i_,i_,i_,i_,i_,i_,i_,i_,i_,i_,i_,i_,i_,i_,i_,i_,i_,i_,i_,i_,i_,i_,i_,i_,i_,i_,i_,i_,i_,i_,i_,i_,i_,i_,i_,i_,i_,i_,i_,i_,i_,i_,i_,i_,i_,i_,i_,i_,i_,i_,i_,i_,i_,i_,i_,i_,i_,i_,i_,i_,i_,i_,i_,i_,i_,i_,i_,i_,i_,i_,i_,i_,i_,i_,i_,i_,i_,i_,i_,i_,i_,i_,i_,i_,i_,i_,i_,i_,i_,i_,i_,i_,i_,i_,i_,i_,i_,i_,i_,i_,i_,i_,i_,i_,i_,i_,i_,i_,i_,i_,i_,i_,i_,i_,i_,i_,i_,i_,i_,i_,i_,i_,i_,i_,i_,i_,i_,i_,i_,i_,i_,i_,i_,i_,i_,i_,i_,i_,i_,i_,i_,i_,i_,i_,i_,i_,i_,i_,i_,i_,i_,i_,i_,i_,i_,i_,i_,i_,i_,i_,i_,i_,i_,i_,i_,i_,i_,i_,i_,i_,i_,i_,i_,i_,i_,i_,i_,i_,i_,i_,i_,i_,i_,i_,i_,i_,i_,i_,i_,i_,i_,i_,i_,i_,i_,i_,i_,i_,i_,i_,i_,i_,i_,i_,i_,i_,i_,i_,i_,i_,i_,i_,i_,i_,i_,i_,i_,i_,i_,i_,i_,i_,i_,i_,i_] (fun f_ wc => ∃ (kq : Nat), Aside0 (laws_FnOrdersChange.j2 kq l1 = some r) ∧ Aside0 (kq ≤ kj7) ∧ Aside0 (Below w.heap.size w wc)) ?rest ?first
   case first =>
    intro J_ K_ hJ_ hK_
    repeat revert ‹_›
    intro HP0_ HP1_
    exact HP0_.out
   case rest =>
    intro f_ wc hcut
    dsimp only [maskF] at hcut ⊢
    repeat revert ‹_›
    intro HP0_ HP1_
    exact HP1_.out
def laws_FnOrdersChange.c2 : PSigma fun P0_ : Prop => Hole P0_ → laws_FnOrdersChange.c1.1 := by
 refine' ⟨_, fun HP0_ => _⟩
 rotate_left 1
 intro k A0 c0 l0 A1 c1 l1 r w HR0 HC0 HR1 HC1 A3 t530 t531 A5 t532 t533 A6 t536 t537 A7 _ nd _ w9 w10 v534 w11 v538 HO535 HO539 _ f_ wc HO_7 HB kj7 HJ7 HC17 _ _ J_ K_ hJ_ hK_
 have H := HC17.out
 clear HC17
 by_cases c18 : t533 = true
 ·subst c18
  rw [if_pos rfl] at H
  have H1 := H
  clear H
  have H := H1
  clear H1
  replace H := Option.bind_eq_some_iff.mp H
  obtain ⟨⟨t541, t542⟩, A190, H⟩ := H
  try dsimp +instances only at H
  replace H := H
  have A19 := Aside0.mk A190
  clear A190
  have HC20 := Aside0.mk H
  clear H
  obtain ⟨Ao21, co21, eo21⟩ := Kd.R_slice HO_7.out
  subst eo21
  go_upto_region 10 with (first | ((with_reducible refine gate_callee (f := 9) rfl ?_); refine goesL_ (some 116) rfl rfl Try.func9 (by kernel_rfl) rfl #[.int .i64 t530, .slice Ao21 t532.length co21] rfl (by (try simp only [List.map_toArray, List.map_cons, List.map_nil]); rfl) ?_; (with_reducible refine (impl_RankOfSet.calls kj7 t530 _ _ t532 t541 t542 _ ?side1 ?side2 A19.out).mono ?_); (case side1 => exact (Kd.R_reads' HO_7.out).2.2); (case side2 => exact (Kd.R_reads' HO_7.out).2.1); rintro e w' ⟨rfl, ⟨nd, rfl⟩⟩; refine ⟨_, rfl, ?_⟩))
  (try simp only [Act.put, List.setIfInBounds_toArray, List.set_cons_zero, List.set_cons_succ])
  refine wp_cutF [o_,o_,o_,o_,o_,o_,o_,o_,o_,o_,o_,o_,o_,o_,o_,o_,o_,o_,o_,o_,o_,o_,o_,o_,o_,o_,o_,o_,o_,o_,o_,o_,o_,o_,o_,o_,o_,o_,o_,o_,o_,o_,o_,o_,o_,o_,o_,o_,o_,o_,o_,o_,o_,o_,o_,o_,o_,o_,o_,o_,o_,o_,o_,o_,o_,o_,o_,o_,o_,o_,o_,o_,o_,o_,o_,o_,o_,o_,o_,o_,o_,o_,o_,i_,i_,i_,i_,i_,i_,i_,i_,i_,i_,i_,i_,i_,i_,i_,i_,i_,i_,i_,i_,i_,i_,i_,i_,i_,i_,i_,i_,i_,i_,i_,i_,i_,i_,i_,i_,i_,i_,i_,i_,i_,i_,i_,i_,i_,i_,i_,i_,i_,i_,i_,i_,i_,i_,i_,i_,i_,i_,i_,i_,i_,i_,i_,i_,i_,i_,i_,i_,i_,i_,i_,i_,i_,i_,i_,i_,i_,i_,i_,i_,i_,i_,i_,i_,i_,i_,i_,i_,i_,i_,i_,i_,i_,i_,i_,i_,i_,i_,i_,i_,i_,i_,i_,i_,i_,i_,i_,i_,i_,i_,i_,i_,i_,i_,i_,i_,i_,i_,i_,i_,i_,i_,i_,i_,i_,i_,i_,i_,i_,i_,i_,i_,i_,i_,i_,i_,i_,i_,i_,i_,i_,i_,i_,i_,i_,i_,i_,i_,i_,i_,i_,i_,i_,i_,i_,i_,i_,i_,i_,i_,i_,i_,i_,i_,i_,i_,i_,i_,i_,i_,i_,i_,i_,i_,i_,i_,i_,i_,i_,i_,i_,i_,i_,i_,i_,i_,i_,i_,i_,i_,i_,i_,i_,i_,i_,i_,i_,i_,i_,i_,i_,i_,i_,i_,i_,i_,i_,i_,i_,i_,i_,i_,i_,i_,i_,i_,i_,i_,i_,i_,i_,i_,i_,i_,i_,i_,i_,i_,i_,i_,i_,i_,i_,i_,i_,i_,i_,i_,i_,i_,i_,i_,i_,i_,i_,i_,i_,i_,i_,i_,i_,i_,i_,i_,i_,i_,i_,i_,i_,i_,i_,i_,i_,i_,i_,i_,i_,i_,i_,i_,i_,i_,i_,i_,i_,i_,i_,i_,i_,i_,i_,i_,i_,i_,i_,i_,i_,i_,i_,i_,i_,i_,i_,i_,i_,i_,i_,i_,i_,i_,i_,i_,i_,i_,i_,i_,i_,i_,i_,i_,i_,i_,i_,i_,i_,i_,i_,i_,i_,i_,i_,i_,i_,i_,i_,i_,i_,i_,i_,i_,i_,i_,i_,i_,i_,i_,i_,i_,i_,i_,i_,i_,i_,i_,i_,i_,i_,i_,i_,i_,i_,i_,i_,i_,i_,i_,i_,i_,i_,i_,i_,i_,i_,i_,i_,i_,i_,i_,i_,i_,i_,i_,i_,i_,i_,i_,i_,i_,i_,i_,i_,i_,i_,i_,i_,i_,i_,i_,i_,i_,i_,i_,i_,i_,i_,i_,i_,i_,i_,i_,i_,i_,i_,i_,i_,i_,i_,i_,i_,i_,i_,i_,i_,i_,i_,i_,i_,i_,i_,i_,i_,i_,i_,i_,i_,i_,i_,i_,i_,i_,i_,i_,i_,i_,i_,i_,i_,i_,i_,i_,i_,i_,i_,i_,i_,i_,i_,i_,i_,i_,i_,i_,i_,i_,i_,i_,i_,i_,i_,i_,i_,i_,i_,i_,i_,i_,i_,i_,i_,i_,i_,i_,i_,i_,i_,i_,i_,i_,i_,i_,i_,i_,i_,i_,i_,i_,i_,i_,i_,i_,i_,i_,i_,i_,i_,i_,i_,i_,i_,i_,i_,i_,i_,i_,i_,i_,i_,i_,i_,i_,i_,i_,i_,i_,i_,i_,i_,i_,i_,i_,i_,i_] (fun f_ wc => ∃ (kq : Nat) (x130_19 : Bool), (f_ 130) = .bool x130_19 ∧ Aside0 (laws_FnOrdersChange.j1 kq l1 t530 t531 t532 x130_19 = some r) ∧ Aside0 (kq ≤ kj7) ∧ Aside0 (Kd.R (Kd.int .i64) 3 wc w.heap.size (fun _ => True) (.slice Ao21 t532.length co21) t532) ∧ Aside0 (Below w.heap.size w wc)) ?rest ?first
  case first =>
   intro J_ K_ hJ_ hK_
   have H := HC20.out
   clear HC20
   by_cases c22 : t542 = true
   ·subst c22
    rw [if_pos rfl] at H
    have H1 := H
    clear H
    have H := H1
    clear H1
    by_cases c23 : t541 = t531
    ·rw [if_pos c23] at H
     have c23b0 : (t541 == t531) = true := beq_iff_eq.mpr c23
     have c23b1 : (t541 != t531) = false := bne_eq_false_iff_eq.mpr c23
     clear c23
     (first | rw [c23b0] | (simp only [i64_w, i32_w]; rw [c23b0]) | skip)
     replace H := Option.bind_eq_some_iff.mp H
     obtain ⟨t543, A240, H⟩ := H
     try dsimp +instances only at H
     replace H := H
     have A24 := Aside0.mk A240
     clear A240
     have H' := Aside0.mk H
     clear H
     go_wp2_with (first | (go_at_call 10; (with_reducible refine (laws_xRises.calls kj7 _ _ t532 t543 _ ?side1 ?side2 A24.out).mono ?_); (case side1 => exact (Kd.R_reads' HO_7.out).2.2); (case side2 => exact (Kd.R_reads' HO_7.out).2.1); rintro e w' ⟨rfl, ⟨nd, rfl⟩⟩))
     refine Met.intro (hJ_ _ _ ?mg_ ?rel)
     case mg_ => kernel_rfl
     case rel => exact ⟨_, (!t543), (by rfl), H', ⟨by have := HJ7.out; omega⟩, ⟨by apply Kd.R_drewN; exact HO_7.out⟩, ⟨by (apply pw_below_drewN; exact HB.out)⟩⟩
    ·rw [if_neg c23] at H
     have c23b0 : (t541 == t531) = false := beq_eq_false_iff_ne.mpr c23
     have c23b1 : (t541 != t531) = true := bne_iff_ne.mpr c23
     (first | rw [c23b0] | (simp only [i64_w, i32_w]; rw [c23b0]) | skip)
     have H' := Aside0.mk H
     clear H
     go_wp2
     refine Met.intro (hJ_ _ _ ?mg_ ?rel)
     case mg_ => kernel_rfl
     case rel => exact ⟨_, (true), (by rfl), H', ⟨by have := HJ7.out; omega⟩, ⟨by apply Kd.R_drewN; exact HO_7.out⟩, ⟨by (apply pw_below_drewN; exact HB.out)⟩⟩
   ·replace c22 := Bool.eq_false_iff.mpr c22
    subst c22
    rw [if_neg (show ¬ (false = true) by decide)] at H
    have H1 := H
    clear H
    have H := H1
    clear H1
    have H' := Aside0.mk H
    clear H
    go_wp2
    refine Met.intro (hJ_ _ _ ?mg_ ?rel)
    case mg_ => kernel_rfl
    case rel => exact ⟨_, (true), (by rfl), H', ⟨by have := HJ7.out; omega⟩, ⟨by apply Kd.R_drewN; exact HO_7.out⟩, ⟨by (apply pw_below_drewN; exact HB.out)⟩⟩
  case rest =>
   intro f_ wc hcut
   dsimp only [maskF] at hcut ⊢
   generalize f_ 130 = u130 at hcut ⊢
   repeat revert ‹_›
   intro HP0_
   exact HP0_.out
 ·replace c18 := Bool.eq_false_iff.mpr c18
  subst c18
  rw [if_neg (show ¬ (false = true) by decide)] at H
  have H1 := H
  clear H
  have H := H1
  clear H1
  have H' := Aside0.mk H
  clear H
  go_wp2
  refine Met.intro (hJ_ _ _ ?mg_ ?rel)
  case mg_ => kernel_rfl
  case rel => exact ⟨_, H', ⟨by have := HJ7.out; omega⟩, ⟨HB.out⟩⟩
theorem laws_FnOrdersChange.c3 : laws_FnOrdersChange.c2.1 := by
 intro k A0 c0 l0 A1 c1 l1 r w HR0 HC0 HR1 HC1 A3 t530 t531 A5 t532 t536 t537 A7 _ _ _ w9 w10 w11 v538 _ _ _ HB kj7 HJ7 _ _ J_ K_ hK_ A6 t541 t542 A19 HC20 Ao21 co21 HO535 HO539 HO_7 hJ_ nd _ _ _ _ f_ wc u130 hcut
 clear HC20
 try clear c1
 try clear c2
 try clear p2
 try clear c3
 try clear c4
 try clear c5
 try clear c6
 try clear c7
 try clear c9
 try clear c12
 try clear c12b0
 try clear c12b1
 try clear c12b2
 try clear c16
 try clear c18
 try clear c22
 try clear c23
 try clear c23b0
 try clear c23b1
 try clear p2
 obtain ⟨kq, x130_19, rfl, HA, HJ19, HO_7, HB⟩ := hcut
 cases kq with
 | zero => exact absurd HA.out (by simp [laws_FnOrdersChange.j1])
 | succ kj19 =>
  have H := HA.out
  clear HA
  simp only [laws_FnOrdersChange.j1] at H
  by_cases c25 : x130_19 = true
  ·subst c25
   rw [if_pos rfl] at H
   have H1 := H
   clear H
   have H := H1
   clear H1
   obtain rfl := Option.some.inj H
   go_wp2
   go_ret
   exact ⟨by rfl, HB.out⟩
  ·replace c25 := Bool.eq_false_iff.mpr c25
   subst c25
   rw [if_neg (show ¬ (false = true) by decide)] at H
   have H1 := H
   clear H
   have H := H1
   clear H1
   replace H := Option.bind_eq_some_iff.mp H
   obtain ⟨⟨t544, t545⟩, A260, H⟩ := H
   try dsimp +instances only at H
   replace H := H
   have A26 := Aside0.mk A260
   clear A260
   by_cases c27 : t545 = true
   ·subst c27
    rw [if_pos rfl] at H
    have H1 := H
    clear H
    have H := H1
    clear H1
    replace H := Option.bind_eq_some_iff.mp H
    obtain ⟨t548, A280, H⟩ := H
    try dsimp +instances only at H
    replace H := H
    have A28 := Aside0.mk A280
    clear A280
    by_cases c29 : (wrap64 ((wrap64 ((t532.length : Int) + (t544.length : Int))) - (wrap64 (2 * t548)))) = 1
    ·rw [if_pos c29] at H
     have c29b0 : ((wrap64 ((wrap64 ((t532.length : Int) + (t544.length : Int))) - (wrap64 (2 * t548)))) == 1) = true := beq_iff_eq.mpr c29
     have c29b1 : ((wrap64 ((wrap64 ((t532.length : Int) + (t544.length : Int))) - (wrap64 (2 * t548)))) != 1) = false := bne_eq_false_iff_eq.mpr c29
     clear c29
     have H' := Aside0.mk H
     clear H
     go_wp2_with (first | ((with_reducible refine gate_callee (f := 6) rfl ?_); refine goesL_ (some 135) rfl rfl Try.func6 (by kernel_rfl) rfl #[.int .i64 t530, .int .i64 (wrap64 (t531 + 1))] rfl (by (try simp only [List.map_toArray, List.map_cons, List.map_nil]); rfl) ?_; (with_reducible refine (impl_SetAt.calls kj19 t530 (wrap64 (t531 + 1)) t544 true _ A26.out).mono ?_); rintro e w30 ⟨v546, rfl, ho0, hb⟩; refine ⟨_, rfl, ?_⟩; have n0_ := Aside0.mk (Kd.R_elder' (HO_7.out) (Kd.R_base ho0) hb); have n1_ := Aside0.mk (Kd.R_lower (Kd.R_new' ho0 (Kd.R_lt (HO_7.out))) (below_size (HB.out))); have n2_ := Aside0.mk (below_step (HB.out) hb); clear HO_7; clear HB; have HO_7 := n0_; have HO547 := n1_; have HB := n2_; clear n0_ n1_ n2_; clear hb; clear ho0; obtain ⟨Ao31, co31, eo31⟩ := Kd.R_slice HO547.out; subst eo31) | (go_at_call 11; (with_reducible refine (laws_xCommon.calls kj19 _ _ t532 _ _ t544 t548 _ ?side1 ?side2 ?side3 ?side4 A28.out).mono ?_); (case side1 => exact (Kd.R_reads' HO_7.out).2.2); (case side2 => exact (Kd.R_reads' HO_7.out).2.1); (case side3 => exact (Kd.R_reads' HO547.out).2.2); (case side4 => exact (Kd.R_reads' HO547.out).2.1); rintro e w' ⟨rfl, ⟨nd, rfl⟩⟩))
     refine Met.intro (hJ_ _ _ ?mg_ ?rel)
     case mg_ => kernel_rfl
     case rel => exact ⟨_, H', ⟨by have := HJ7.out; have := HJ19.out; omega⟩, ⟨by (apply pw_below_drewN; exact HB.out)⟩⟩
    ·rw [if_neg c29] at H
     have c29b0 : ((wrap64 ((wrap64 ((t532.length : Int) + (t544.length : Int))) - (wrap64 (2 * t548)))) == 1) = false := beq_eq_false_iff_ne.mpr c29
     have c29b1 : ((wrap64 ((wrap64 ((t532.length : Int) + (t544.length : Int))) - (wrap64 (2 * t548)))) != 1) = true := bne_iff_ne.mpr c29
     obtain rfl := Option.some.inj H
     go_wp2_with (first | ((with_reducible refine gate_callee (f := 6) rfl ?_); refine goesL_ (some 135) rfl rfl Try.func6 (by kernel_rfl) rfl #[.int .i64 t530, .int .i64 (wrap64 (t531 + 1))] rfl (by (try simp only [List.map_toArray, List.map_cons, List.map_nil]); rfl) ?_; (with_reducible refine (impl_SetAt.calls kj19 t530 (wrap64 (t531 + 1)) t544 true _ A26.out).mono ?_); rintro e w32 ⟨v546, rfl, ho0, hb⟩; refine ⟨_, rfl, ?_⟩; have n0_ := Aside0.mk (Kd.R_elder' (HO_7.out) (Kd.R_base ho0) hb); have n1_ := Aside0.mk (Kd.R_lower (Kd.R_new' ho0 (Kd.R_lt (HO_7.out))) (below_size (HB.out))); have n2_ := Aside0.mk (below_step (HB.out) hb); clear HO_7; clear HB; have HO_7 := n0_; have HO547 := n1_; have HB := n2_; clear n0_ n1_ n2_; clear hb; clear ho0; obtain ⟨Ao33, co33, eo33⟩ := Kd.R_slice HO547.out; subst eo33) | (go_at_call 11; (with_reducible refine (laws_xCommon.calls kj19 _ _ t532 _ _ t544 t548 _ ?side1 ?side2 ?side3 ?side4 A28.out).mono ?_); (case side1 => exact (Kd.R_reads' HO_7.out).2.2); (case side2 => exact (Kd.R_reads' HO_7.out).2.1); (case side3 => exact (Kd.R_reads' HO547.out).2.2); (case side4 => exact (Kd.R_reads' HO547.out).2.1); rintro e w' ⟨rfl, ⟨nd, rfl⟩⟩))
     go_ret
     exact ⟨by rfl, by (apply pw_below_drewN; exact HB.out)⟩
   ·replace c27 := Bool.eq_false_iff.mpr c27
    subst c27
    rw [if_neg (show ¬ (false = true) by decide)] at H
    have H1 := H
    clear H
    have H := H1
    clear H1
    have H' := Aside0.mk H
    clear H
    go_wp2_with (first | ((with_reducible refine gate_callee (f := 6) rfl ?_); refine goesL_ (some 135) rfl rfl Try.func6 (by kernel_rfl) rfl #[.int .i64 t530, .int .i64 (wrap64 (t531 + 1))] rfl (by (try simp only [List.map_toArray, List.map_cons, List.map_nil]); rfl) ?_; (with_reducible refine (impl_SetAt.calls kj19 t530 (wrap64 (t531 + 1)) t544 false _ A26.out).mono ?_); rintro e w34 ⟨v546, rfl, ho0, hb⟩; refine ⟨_, rfl, ?_⟩; have n0_ := Aside0.mk (Kd.R_elder' (HO_7.out) (Kd.R_base ho0) hb); have n1_ := Aside0.mk (Kd.R_lower (Kd.R_new' ho0 (Kd.R_lt (HO_7.out))) (below_size (HB.out))); have n2_ := Aside0.mk (below_step (HB.out) hb); clear HO_7; clear HB; have HO_7 := n0_; have HO547 := n1_; have HB := n2_; clear n0_ n1_ n2_; clear hb; clear ho0))
    refine Met.intro (hJ_ _ _ ?mg_ ?rel)
    case mg_ => kernel_rfl
    case rel => exact ⟨_, H', ⟨by have := HJ7.out; have := HJ19.out; omega⟩, ⟨HB.out⟩⟩
def laws_FnOrdersChange.c4 : PSigma fun P0_ : Prop => PSigma fun P1_ : Prop => Hole P0_ → Hole P1_ → laws_FnOrdersChange.c1.2.1 := by
 refine' ⟨_, _, fun HP0_ HP1_ => _⟩
 rotate_left 2
 intro k A0 c0 l0 A1 c1 l1 r w HR0 HC0 HR1 HC1 A3 t530 t531 A5 t532 t533 A6 t536 t537 A7 _ nd _ w9 w10 v534 w11 v538 HO535 HO539 _ _ _ HO_7 HB kj7 HJ7 HC17 _ _ f_ wc hcut
 clear HC17
 try clear c1
 try clear c2
 try clear p2
 try clear c3
 try clear c4
 try clear c5
 try clear c6
 try clear p6
 try clear c7
 try clear c9
 try clear c12
 try clear c12b0
 try clear c12b1
 try clear c12b2
 try clear c16
 try clear c18
 try clear c22
 try clear c23
 try clear c23b0
 try clear c23b1
 try clear c25
 try clear c27
 try clear c29
 try clear c29b0
 try clear c29b1
 try clear p2
 obtain ⟨kq, HA, HJ16, HB⟩ := hcut
 cases kq with
 | zero => exact absurd HA.out (by simp [laws_FnOrdersChange.j2])
 | succ kj16 =>
  have H := HA.out
  clear HA
  simp only [laws_FnOrdersChange.j2] at H
  replace H := Option.bind_eq_some_iff.mp H
  obtain ⟨⟨t549, t550, t551⟩, A350, H⟩ := H
  try dsimp +instances only at H
  replace H := H
  have A35 := Aside0.mk A350
  clear A350
  replace H := Option.bind_eq_some_iff.mp H
  obtain ⟨⟨t552, t553⟩, A360, H⟩ := H
  try dsimp +instances only at H
  replace H := H
  have A36 := Aside0.mk A360
  clear A360
  replace H := Option.bind_eq_some_iff.mp H
  obtain ⟨⟨t556, t557⟩, A370, H⟩ := H
  try dsimp +instances only at H
  replace H := H
  have A37 := Aside0.mk A370
  clear A370
  replace H := Option.bind_eq_some_iff.mp H
  obtain ⟨⟨t560, t561⟩, A380, H⟩ := H
  try dsimp +instances only at H
  replace H := H
  have A38 := Aside0.mk A380
  clear A380
  replace H := Option.bind_eq_some_iff.mp H
  obtain ⟨⟨t562, t563⟩, A390, H⟩ := H
  try dsimp +instances only at H
  replace H := H
  have A39 := Aside0.mk A390
  clear A390
  replace H := Option.bind_eq_some_iff.mp H
  obtain ⟨⟨t564, t565⟩, A400, H⟩ := H
  try dsimp +instances only at H
  replace H := H
  have A40 := Aside0.mk A400
  clear A400
  replace H := Option.bind_eq_some_iff.mp H
  obtain ⟨⟨t568, t569⟩, A410, H⟩ := H
  try dsimp +instances only at H
  replace H := H
  have A41 := Aside0.mk A410
  clear A410
  replace H := Option.bind_eq_some_iff.mp H
  obtain ⟨⟨t570, t571⟩, A420, H⟩ := H
  try dsimp +instances only at H
  replace H := H
  have A42 := Aside0.mk A420
  clear A420
  replace H := Option.bind_eq_some_iff.mp H
  obtain ⟨⟨t572, t573⟩, A430, H⟩ := H
  try dsimp +instances only at H
  replace H := H
  have A43 := Aside0.mk A430
  clear A430
  replace H := Option.bind_eq_some_iff.mp H
  obtain ⟨⟨t574, t575⟩, A440, H⟩ := H
  try dsimp +instances only at H
  replace H := H
  have A44 := Aside0.mk A440
  clear A440
  have HC45 := Aside0.mk H
  clear H
  go_upto_region 25 with (first | ((with_reducible refine gate_callee (f := 12) rfl ?_); refine goesL_ (some 154) rfl rfl Try.func12 (by kernel_rfl) rfl #[.slice A1 l1.length c1] rfl (by (try simp only [List.map_toArray, List.map_cons, List.map_nil]); rfl) ?_; (with_reducible refine (spec_DrawChoiceAt.calls kj16 _ _ l1 t549 t550 t551 _ ?side1 ?side2 A35.out).mono ?_); (case side1 => repeat (first | exact (Kd.C_below HR1.out HB.out) | (with_reducible refine Kd.C_alloc ?_ _) | (with_reducible refine Kd.C_drewN ?_ _) | (with_reducible refine Kd.C_drew ?_))); (case side2 => exact HC1.out); rintro e w46 ⟨rfl, hb⟩; refine ⟨_, rfl, ?_⟩; have n0_ := Aside0.mk (below_step (HB.out) hb); clear HB; have HB := n0_; clear n0_; clear hb; (try clear hi)) | ((with_reducible refine gate_callee (f := 13) rfl ?_); refine goesL_ (some 162) rfl rfl Try.func13 (by kernel_rfl) rfl #[.int .i64 t549, .int .i64 t550, .int .i64 t551] rfl (by (try simp only [List.map_toArray, List.map_cons, List.map_nil]); rfl) ?_; (with_reducible refine (impl_ChoiceAt.calls kj16 t549 t550 t551 t552 t553 _ A36.out).mono ?_); rintro e w47 ⟨v554, rfl, ho0, hb⟩; refine ⟨_, rfl, ?_⟩; have n0_ := Aside0.mk (Kd.R_lower ho0 (below_size (HB.out))); have n1_ := Aside0.mk (below_step (HB.out) hb); clear HB; have HO555 := n0_; have HB := n1_; clear n0_ n1_; clear hb; clear ho0) | ((with_reducible refine gate_callee (f := 14) rfl ?_); refine goesL_ (some 169) rfl rfl Try.func14 (by kernel_rfl) rfl #[.int .i64 t549, .int .i64 t550, .int .i64 t551] rfl (by (try simp only [List.map_toArray, List.map_cons, List.map_nil]); rfl) ?_; (with_reducible refine (spec_ChoiceAt.calls kj16 t549 t550 t551 t556 t557 _ A37.out).mono ?_); rintro e w48 ⟨v558, rfl, ho0, hb⟩; refine ⟨_, rfl, ?_⟩; have n0_ := Aside0.mk (Kd.R_elder' (HO555.out) (Kd.R_base ho0) hb); have n1_ := Aside0.mk (Kd.R_lower (Kd.R_new' ho0 (Kd.R_lt (HO555.out))) (below_size (HB.out))); have n2_ := Aside0.mk (below_step (HB.out) hb); clear HO555; clear HB; have HO555 := n0_; have HO559 := n1_; have HB := n2_; clear n0_ n1_ n2_; clear hb; clear ho0) | ((with_reducible refine gate_callee (f := 15) rfl ?_); refine goesL_ (some 175) rfl rfl Try.func15 (by kernel_rfl) rfl #[.int .i64 t549, .int .i64 t550] rfl (by (try simp only [List.map_toArray, List.map_cons, List.map_nil]); rfl) ?_; (with_reducible refine (impl_CountChoices.calls kj16 t549 t550 t560 t561 _ A38.out).mono ?_); rintro e w' ⟨rfl, ⟨nd, rfl⟩⟩; refine ⟨_, rfl, ?_⟩) | ((with_reducible refine gate_callee (f := 16) rfl ?_); refine goesL_ (some 181) rfl rfl Try.func16 (by kernel_rfl) rfl #[.int .i64 t549, .int .i64 t550] rfl (by (try simp only [List.map_toArray, List.map_cons, List.map_nil]); rfl) ?_; (with_reducible refine (spec_CountChoices.calls kj16 t549 t550 t562 t563 _ A39.out).mono ?_); rintro e w' ⟨rfl, ⟨nd, rfl⟩⟩; refine ⟨_, rfl, ?_⟩) | ((with_reducible refine gate_callee (f := 17) rfl ?_); refine goesL_ (some 186) rfl rfl Try.func17 (by kernel_rfl) rfl #[.slice A1 l1.length c1] rfl (by (try simp only [List.map_toArray, List.map_cons, List.map_nil]); rfl) ?_; (with_reducible refine (spec_DrawRankOfChoice.calls kj16 _ _ l1 t564 t565 _ ?side1 ?side2 A40.out).mono ?_); (case side1 => repeat (first | exact (Kd.C_below HR1.out (by (apply pw_below_drewN; exact HB.out))) | (with_reducible refine Kd.C_alloc ?_ _) | (with_reducible refine Kd.C_drewN ?_ _) | (with_reducible refine Kd.C_drew ?_))); (case side2 => exact HC1.out); rintro e w49 ⟨v566, rfl, ho0, hb⟩; refine ⟨_, rfl, ?_⟩; have n0_ := Aside0.mk (Kd.R_elder' (by apply Kd.R_drewN; exact HO555.out) (Kd.R_base ho0) hb); have n1_ := Aside0.mk (Kd.R_elder' (by apply Kd.R_drewN; exact HO559.out) (Kd.R_base ho0) hb); have n2_ := Aside0.mk (Kd.R_lower (Kd.R_new' (Kd.R_new' ho0 (Kd.R_lt (by apply Kd.R_drewN; exact HO555.out))) (Kd.R_lt (by apply Kd.R_drewN; exact HO559.out))) (below_size (by (apply pw_below_drewN; exact HB.out)))); have n3_ := Aside0.mk (below_step (by (apply pw_below_drewN; exact HB.out)) hb); clear HO555; clear HO559; clear HB; have HO555 := n0_; have HO559 := n1_; have HO567 := n2_; have HB := n3_; clear n0_ n1_ n2_ n3_; clear hb; clear ho0; obtain ⟨Ao50, co50, eo50⟩ := Kd.R_slice HO567.out; subst eo50) | ((with_reducible refine gate_callee (f := 18) rfl ?_); refine goesL_ (some 192) rfl rfl Try.func18 (by kernel_rfl) rfl #[.int .i64 t564, .slice Ao50 t565.length co50] rfl (by (try simp only [List.map_toArray, List.map_cons, List.map_nil]); rfl) ?_; (with_reducible refine (impl_RankOfChoice.calls kj16 t564 _ _ t565 t568 t569 _ ?side1 ?side2 A41.out).mono ?_); (case side1 => exact (Kd.R_reads' HO567.out).2.2); (case side2 => exact (Kd.R_reads' HO567.out).2.1); rintro e w' ⟨rfl, ⟨nd, rfl⟩⟩; refine ⟨_, rfl, ?_⟩) | ((with_reducible refine gate_callee (f := 19) rfl ?_); refine goesL_ (some 198) rfl rfl Try.func19 (by kernel_rfl) rfl #[.int .i64 t564, .slice Ao50 t565.length co50] rfl (by (try simp only [List.map_toArray, List.map_cons, List.map_nil]); rfl) ?_; (with_reducible refine (spec_RankOfChoice.calls kj16 t564 _ _ t565 t570 t571 _ ?side1 ?side2 A42.out).mono ?_); (case side1 => exact (Kd.R_reads' HO567.out).2.2); (case side2 => exact (Kd.R_reads' HO567.out).2.1); rintro e w51 ⟨rfl, hb⟩; refine ⟨_, rfl, ?_⟩; have n0_ := Aside0.mk (Kd.R_below (by apply Kd.R_drewN; exact HO555.out) hb); have n1_ := Aside0.mk (Kd.R_below (by apply Kd.R_drewN; exact HO559.out) hb); have n2_ := Aside0.mk (Kd.R_below (by apply Kd.R_drewN; exact HO567.out) hb); have n3_ := Aside0.mk (below_step (by (apply pw_below_drewN; exact HB.out)) hb); clear HO555; clear HO559; clear HO567; clear HB; have HO555 := n0_; have HO559 := n1_; have HO567 := n2_; have HB := n3_; clear n0_ n1_ n2_ n3_; clear hb; (try clear hi)) | ((with_reducible refine gate_callee (f := 9) rfl ?_); refine goesL_ (some 204) rfl rfl Try.func9 (by kernel_rfl) rfl #[.int .i64 t564, .slice Ao50 t565.length co50] rfl (by (try simp only [List.map_toArray, List.map_cons, List.map_nil]); rfl) ?_; (with_reducible refine (impl_RankOfSet.calls kj16 t564 _ _ t565 t572 t573 _ ?side1 ?side2 A43.out).mono ?_); (case side1 => exact (Kd.R_reads' HO567.out).2.2); (case side2 => exact (Kd.R_reads' HO567.out).2.1); rintro e w' ⟨rfl, ⟨nd, rfl⟩⟩; refine ⟨_, rfl, ?_⟩) | ((with_reducible refine gate_callee (f := 20) rfl ?_); refine goesL_ (some 210) rfl rfl Try.func20 (by kernel_rfl) rfl #[.int .i64 t564, .slice Ao50 t565.length co50] rfl (by (try simp only [List.map_toArray, List.map_cons, List.map_nil]); rfl) ?_; (with_reducible refine (spec_RankOfSet.calls kj16 t564 _ _ t565 t574 t575 _ ?side1 ?side2 A44.out).mono ?_); (case side1 => exact (Kd.R_reads' HO567.out).2.2); (case side2 => exact (Kd.R_reads' HO567.out).2.1); rintro e w' ⟨rfl, ⟨nd, rfl⟩⟩; refine ⟨_, rfl, ?_⟩))
  (try simp only [Act.put, List.setIfInBounds_toArray, List.set_cons_zero, List.set_cons_succ])
  refine wp_cutF [o_,o_,o_,o_,o_,o_,o_,o_,o_,o_,o_,o_,o_,o_,o_,o_,o_,o_,o_,o_,o_,o_,o_,o_,o_,o_,o_,o_,o_,o_,o_,o_,o_,o_,o_,o_,o_,o_,o_,o_,o_,o_,o_,o_,o_,o_,o_,o_,o_,o_,o_,o_,o_,o_,o_,o_,o_,o_,o_,o_,o_,o_,o_,o_,o_,o_,o_,o_,o_,o_,o_,o_,o_,o_,o_,o_,o_,o_,o_,o_,o_,o_,o_,i_,i_,i_,i_,i_,i_,i_,i_,i_,i_,i_,i_,i_,i_,i_,i_,i_,i_,i_,i_,i_,i_,i_,i_,i_,i_,i_,i_,i_,i_,i_,i_,i_,i_,i_,i_,i_,i_,i_,i_,i_,i_,i_,i_,i_,i_,i_,i_,i_,i_,i_,i_,i_,i_,i_,i_,i_,i_,i_,i_,i_,i_,i_,i_,i_,i_,i_,i_,i_,i_,i_,i_,i_,i_,i_,i_,i_,i_,i_,i_,i_,i_,i_,i_,i_,i_,i_,i_,i_,i_,i_,i_,i_,i_,i_,i_,i_,i_,i_,i_,i_,i_,i_,i_,i_,i_,i_,i_,i_,i_,i_,i_,i_,i_,i_,i_,i_,i_,i_,i_,i_,i_,i_,i_,i_,i_,i_,i_,i_,i_,i_,i_,i_,i_,i_,i_,i_,i_,i_,i_,i_,i_,i_,i_,i_,i_,i_,i_,i_,i_,i_,i_,i_,i_,i_,i_,i_,i_,i_,i_,i_,i_,i_,i_,i_,i_,i_,i_,i_,i_,i_,i_,i_,i_,i_,i_,i_,i_,i_,i_,i_,i_,i_,i_,i_,i_,i_,i_,i_,i_,i_,i_,i_,i_,i_,i_,i_,i_,i_,i_,i_,i_,i_,i_,i_,i_,i_,i_,i_,i_,i_,i_,i_,i_,i_,i_,i_,i_,i_,i_,i_,i_,i_,i_,i_,i_,i_,i_,i_,i_,i_,i_,i_,i_,i_,i_,i_,i_,i_,i_,i_,i_,i_,i_,i_,i_,i_,i_,i_,i_,i_,i_,i_,i_,i_,i_,i_,i_,i_,i_,i_,i_,i_,i_,i_,i_,i_,i_,i_,i_,i_,i_,i_,i_,i_,i_,i_,i_,i_,i_,i_,i_,i_,i_,i_,i_,i_,i_,i_,i_,i_,i_,i_,i_,i_,i_,i_,i_,i_,i_,i_,i_,i_,i_,i_,i_,i_,i_,i_,i_,i_,i_,i_,i_,i_,i_,i_,i_,i_,i_,i_,i_,i_,i_,i_,i_,i_,i_,i_,i_,i_,i_,i_,i_,i_,i_,i_,i_,i_,i_,i_,i_,i_,i_,i_,i_,i_,i_,i_,i_,i_,i_,i_,i_,i_,i_,i_,i_,i_,i_,i_,i_,i_,i_,i_,i_,i_,i_,i_,i_,i_,i_,i_,i_,i_,i_,i_,i_,i_,i_,i_,i_,i_,i_,i_,i_,i_,i_,i_,i_,i_,i_,i_,i_,i_,i_,i_,i_,i_,i_,i_,i_,i_,i_,i_,i_,i_,i_,i_,i_,i_,i_,i_,i_,i_,i_,i_,i_,i_,i_,i_,i_,i_,i_,i_,i_,i_,i_,i_,i_,i_,i_,i_,i_,i_,i_,i_,i_,i_,i_,i_,i_,i_,i_,i_,i_,i_,i_,i_,i_,i_,i_,i_,i_,i_,i_,i_,i_,i_,i_,i_,i_,i_,i_,i_,i_,i_,i_,i_,i_,i_,i_,i_,i_,i_,i_,i_,i_,i_,i_,i_,i_,i_,i_,i_,i_,i_,i_,i_,i_,i_,i_,i_,i_,i_,i_,i_,i_,i_,i_,i_,i_,i_,i_,i_,i_,i_,i_,i_,i_,i_,i_,i_,i_,i_,i_,i_,i_,i_,i_,i_,i_] (fun f_ wc => ∃ (kq : Nat) (x270_44 : Bool), (f_ 270) = .bool x270_44 ∧ Aside0 (laws_FnOrdersChange.j3 kq l1 t549 t550 t551 t552 t553 t560 t564 t565 t568 t569 t572 x270_44 = some r) ∧ Aside0 (kq ≤ kj16) ∧ Aside0 (Kd.R (Kd.int .i64) 3 wc w.heap.size (fun k_ => some k_ ≠ ((.slice Ao50 t565.length co50) : Value).ownBlock) v554 t552) ∧ Aside0 (Kd.R (Kd.int .i64) 3 wc w.heap.size (fun k_ => some k_ ≠ (v554 : Value).ownBlock) (.slice Ao50 t565.length co50) t565) ∧ Aside0 (Below w.heap.size w wc)) ?rest ?first
  case first =>
   intro J_ K_ hJ_ hK_
   repeat revert ‹_›
   intro HP0_ HP1_
   exact HP0_.out
  case rest =>
   intro f_ wc hcut
   dsimp only [maskF] at hcut ⊢
   generalize f_ 270 = u270 at hcut ⊢
   repeat revert ‹_›
   intro HP0_ HP1_
   exact HP1_.out
theorem laws_FnOrdersChange.c5 : laws_FnOrdersChange.c4.1 := by
 intro k A0 c0 l0 A1 c1 l1 r w HR0 HC0 HR1 HC1 A3 t530 t531 A5 t532 t533 A6 t536 t537 A7 _ _ _ w9 w10 v534 w11 v538 HO535 HO539 _ _ _ HO_7 _ kj7 HJ7 f_ wc kj16 HJ16 t549 t550 t551 A35 t552 t553 A36 t556 t557 A37 t560 t561 A38 t562 t563 A39 t564 t565 A40 t568 t569 A41 t570 t571 A42 t572 t573 A43 t574 t575 A44 HC45 w46 w47 v554 w48 v558 _ _ w49 Ao50 co50 _ w51 HO555 HO559 HO567 HB _ nd _ _ _ _ J_ K_ hJ_ hK_
 have H := HC45.out
 clear HC45
 by_cases c52 : (t553 != t557) = true
 ·rw [if_pos c52] at H
  have c52b0 : (t553 != t557) = true := c52
  (try (have c52b1 : decide (t553 = t557) = false := by simpa using c52))
  (try (have c52b2 : (t553 == t557) = false := by simpa using c52))
  (try (have c52b3 : ¬ (t553 = t557) := by simpa using c52))
  clear c52
  (first | rw [c52b0] | (simp only [i64_w, i32_w]; rw [c52b0]) | skip)
  have H' := Aside0.mk H
  clear H
  go_wp2
  refine Met.intro (hJ_ _ _ ?mg_ ?rel)
  case mg_ => kernel_rfl
  case rel => exact ⟨_, (true), (by rfl), H', ⟨by have := HJ7.out; have := HJ16.out; omega⟩, ⟨by apply Kd.R_drewN; exact Kd.R_mono HO555.out (fun _ hk => hk.2)⟩, ⟨by apply Kd.R_drewN; exact Kd.R_mono HO567.out (fun _ hk => hk.1.2)⟩, ⟨by (apply pw_below_drewN; exact HB.out)⟩⟩
 ·rw [if_neg c52] at H
  have c52b0 : (t553 != t557) = false := by simpa using c52
  (try (have c52b1 : decide (t553 = t557) = true := by simpa using c52))
  (try (have c52b2 : (t553 == t557) = true := by simpa using c52))
  clear c52
  (try (have c52e : t553 = t557 := by first | simpa using c52b0 | (simpa using (bne_eq_false_iff_eq.mp c52b0).symm)); (subst c52e))
  (first | rw [c52b0] | (simp only [i64_w, i32_w]; rw [c52b0]) | skip)
  replace H := Option.bind_eq_some_iff.mp H
  obtain ⟨t576, A530, H⟩ := H
  try dsimp +instances only at H
  replace H := H
  have A53 := Aside0.mk A530
  clear A530
  by_cases c54 : t576 = true
  ·subst c54
   rw [if_pos rfl] at H
   have H1 := H
   clear H
   have H := H1
   clear H1
   by_cases c55 : (t561 != t563) = true
   ·rw [if_pos c55] at H
    have c55b0 : (t561 != t563) = true := c55
    (try (have c55b1 : decide (t561 = t563) = false := by simpa using c55))
    (try (have c55b2 : (t561 == t563) = false := by simpa using c55))
    (try (have c55b3 : ¬ (t561 = t563) := by simpa using c55))
    clear c55
    have H' := Aside0.mk H
    clear H
    obtain ⟨Ao56, co56, eo56⟩ := Kd.R_slice HO555.out
    subst eo56
    obtain ⟨Ao57, co57, eo57⟩ := Kd.R_slice HO559.out
    subst eo57
    go_wp2_with (first | (go_at_call 8; (with_reducible refine (laws_xSame.calls kj16 _ _ t552 _ _ t556 true _ ?side1 ?side2 ?side3 ?side4 A53.out).mono ?_); (case side1 => exact (Kd.R_reads' HO555.out).2.2); (case side2 => exact (Kd.R_reads' HO555.out).2.1); (case side3 => exact (Kd.R_reads' HO559.out).2.2); (case side4 => exact (Kd.R_reads' HO559.out).2.1); rintro e w' ⟨rfl, ⟨nd, rfl⟩⟩))
    refine Met.intro (hJ_ _ _ ?mg_ ?rel)
    case mg_ => kernel_rfl
    case rel => exact ⟨_, (true), (by rfl), H', ⟨by have := HJ7.out; have := HJ16.out; omega⟩, ⟨by apply Kd.R_drewN; exact Kd.R_mono HO555.out (fun _ hk => hk.2)⟩, ⟨by apply Kd.R_drewN; exact Kd.R_mono HO567.out (fun _ hk => hk.1.2)⟩, ⟨by (apply pw_below_drewN; exact HB.out)⟩⟩
   ·rw [if_neg c55] at H
    have c55b0 : (t561 != t563) = false := by simpa using c55
    (try (have c55b1 : decide (t561 = t563) = true := by simpa using c55))
    (try (have c55b2 : (t561 == t563) = true := by simpa using c55))
    clear c55
    (try (have c55e : t561 = t563 := by first | simpa using c55b0 | (simpa using (bne_eq_false_iff_eq.mp c55b0).symm)); (subst c55e))
    by_cases c58 : t560 = t562
    ·rw [if_pos c58] at H
     have c58b0 : (t560 == t562) = true := beq_iff_eq.mpr c58
     have c58b1 : (t560 != t562) = false := bne_eq_false_iff_eq.mpr c58
     clear c58
     by_cases c59 : (t569 != t571) = true
     ·rw [if_pos c59] at H
      have c59b0 : (t569 != t571) = true := c59
      (try (have c59b1 : decide (t569 = t571) = false := by simpa using c59))
      (try (have c59b2 : (t569 == t571) = false := by simpa using c59))
      (try (have c59b3 : ¬ (t569 = t571) := by simpa using c59))
      clear c59
      have H' := Aside0.mk H
      clear H
      obtain ⟨Ao60, co60, eo60⟩ := Kd.R_slice HO555.out
      subst eo60
      obtain ⟨Ao61, co61, eo61⟩ := Kd.R_slice HO559.out
      subst eo61
      go_wp2_with (first | (go_at_call 8; (with_reducible refine (laws_xSame.calls kj16 _ _ t552 _ _ t556 true _ ?side1 ?side2 ?side3 ?side4 A53.out).mono ?_); (case side1 => exact (Kd.R_reads' HO555.out).2.2); (case side2 => exact (Kd.R_reads' HO555.out).2.1); (case side3 => exact (Kd.R_reads' HO559.out).2.2); (case side4 => exact (Kd.R_reads' HO559.out).2.1); rintro e w' ⟨rfl, ⟨nd, rfl⟩⟩))
      refine Met.intro (hJ_ _ _ ?mg_ ?rel)
      case mg_ => kernel_rfl
      case rel => exact ⟨_, (true), (by rfl), H', ⟨by have := HJ7.out; have := HJ16.out; omega⟩, ⟨by apply Kd.R_drewN; exact Kd.R_mono HO555.out (fun _ hk => hk.2)⟩, ⟨by apply Kd.R_drewN; exact Kd.R_mono HO567.out (fun _ hk => hk.1.2)⟩, ⟨by (apply pw_below_drewN; exact HB.out)⟩⟩
     ·rw [if_neg c59] at H
      have c59b0 : (t569 != t571) = false := by simpa using c59
      (try (have c59b1 : decide (t569 = t571) = true := by simpa using c59))
      (try (have c59b2 : (t569 == t571) = true := by simpa using c59))
      clear c59
      (try (have c59e : t569 = t571 := by first | simpa using c59b0 | (simpa using (bne_eq_false_iff_eq.mp c59b0).symm)); (subst c59e))
      by_cases c62 : t568 = t570
      ·rw [if_pos c62] at H
       have c62b0 : (t568 == t570) = true := beq_iff_eq.mpr c62
       have c62b1 : (t568 != t570) = false := bne_eq_false_iff_eq.mpr c62
       clear c62
       by_cases c63 : (t573 != t575) = true
       ·rw [if_pos c63] at H
        have c63b0 : (t573 != t575) = true := c63
        (try (have c63b1 : decide (t573 = t575) = false := by simpa using c63))
        (try (have c63b2 : (t573 == t575) = false := by simpa using c63))
        (try (have c63b3 : ¬ (t573 = t575) := by simpa using c63))
        clear c63
        have H' := Aside0.mk H
        clear H
        obtain ⟨Ao64, co64, eo64⟩ := Kd.R_slice HO555.out
        subst eo64
        obtain ⟨Ao65, co65, eo65⟩ := Kd.R_slice HO559.out
        subst eo65
        go_wp2_with (first | (go_at_call 8; (with_reducible refine (laws_xSame.calls kj16 _ _ t552 _ _ t556 true _ ?side1 ?side2 ?side3 ?side4 A53.out).mono ?_); (case side1 => exact (Kd.R_reads' HO555.out).2.2); (case side2 => exact (Kd.R_reads' HO555.out).2.1); (case side3 => exact (Kd.R_reads' HO559.out).2.2); (case side4 => exact (Kd.R_reads' HO559.out).2.1); rintro e w' ⟨rfl, ⟨nd, rfl⟩⟩))
        refine Met.intro (hJ_ _ _ ?mg_ ?rel)
        case mg_ => kernel_rfl
        case rel => exact ⟨_, (true), (by rfl), H', ⟨by have := HJ7.out; have := HJ16.out; omega⟩, ⟨by apply Kd.R_drewN; exact Kd.R_mono HO555.out (fun _ hk => hk.2)⟩, ⟨by apply Kd.R_drewN; exact Kd.R_mono HO567.out (fun _ hk => hk.1.2)⟩, ⟨by (apply pw_below_drewN; exact HB.out)⟩⟩
       ·rw [if_neg c63] at H
        have c63b0 : (t573 != t575) = false := by simpa using c63
        (try (have c63b1 : decide (t573 = t575) = true := by simpa using c63))
        (try (have c63b2 : (t573 == t575) = true := by simpa using c63))
        clear c63
        (try (have c63e : t573 = t575 := by first | simpa using c63b0 | (simpa using (bne_eq_false_iff_eq.mp c63b0).symm)); (subst c63e))
        by_cases c66 : t572 = t574
        ·rw [if_pos c66] at H
         have c66b0 : (t572 == t574) = true := beq_iff_eq.mpr c66
         have c66b1 : (t572 != t574) = false := bne_eq_false_iff_eq.mpr c66
         clear c66
         by_cases c67 : t561 = true
         ·subst c67
          rw [if_pos rfl] at H
          have H1 := H
          clear H
          have H := H1
          clear H1
          by_cases c68 : t551 ≥ 0
          ·rw [if_pos c68] at H
           have c68b0 : decide (0 ≤ t551) = true := decide_eq_true c68
           clear c68
           by_cases c69 : (t553 != (decide (t551 < t560))) = true
           ·rw [if_pos c69] at H
            have c69b0 : (t553 != (decide (t551 < t560))) = true := c69
            (try (have c69b1 : decide (t553 = (decide (t551 < t560))) = false := by simpa using c69))
            (try (have c69b2 : (t553 == (decide (t551 < t560))) = false := by simpa using c69))
            (try (have c69b3 : ¬ (t553 = (decide (t551 < t560))) := by simpa using c69))
            clear c69
            have H' := Aside0.mk H
            clear H
            obtain ⟨Ao70, co70, eo70⟩ := Kd.R_slice HO555.out
            subst eo70
            obtain ⟨Ao71, co71, eo71⟩ := Kd.R_slice HO559.out
            subst eo71
            go_wp2_with (first | (go_at_call 8; (with_reducible refine (laws_xSame.calls kj16 _ _ t552 _ _ t556 true _ ?side1 ?side2 ?side3 ?side4 A53.out).mono ?_); (case side1 => exact (Kd.R_reads' HO555.out).2.2); (case side2 => exact (Kd.R_reads' HO555.out).2.1); (case side3 => exact (Kd.R_reads' HO559.out).2.2); (case side4 => exact (Kd.R_reads' HO559.out).2.1); rintro e w' ⟨rfl, ⟨nd, rfl⟩⟩))
            refine Met.intro (hJ_ _ _ ?mg_ ?rel)
            case mg_ => kernel_rfl
            case rel => exact ⟨_, (true), (by rfl), H', ⟨by have := HJ7.out; have := HJ16.out; omega⟩, ⟨by apply Kd.R_drewN; exact Kd.R_mono HO555.out (fun _ hk => hk.2)⟩, ⟨by apply Kd.R_drewN; exact Kd.R_mono HO567.out (fun _ hk => hk.1.2)⟩, ⟨by (apply pw_below_drewN; exact HB.out)⟩⟩
           ·rw [if_neg c69] at H
            have c69b0 : (t553 != (decide (t551 < t560))) = false := by simpa using c69
            (try (have c69b1 : decide (t553 = (decide (t551 < t560))) = true := by simpa using c69))
            (try (have c69b2 : (t553 == (decide (t551 < t560))) = true := by simpa using c69))
            clear c69
            have H' := Aside0.mk H
            clear H
            obtain ⟨Ao72, co72, eo72⟩ := Kd.R_slice HO555.out
            subst eo72
            obtain ⟨Ao73, co73, eo73⟩ := Kd.R_slice HO559.out
            subst eo73
            go_wp2_with (first | (go_at_call 8; (with_reducible refine (laws_xSame.calls kj16 _ _ t552 _ _ t556 true _ ?side1 ?side2 ?side3 ?side4 A53.out).mono ?_); (case side1 => exact (Kd.R_reads' HO555.out).2.2); (case side2 => exact (Kd.R_reads' HO555.out).2.1); (case side3 => exact (Kd.R_reads' HO559.out).2.2); (case side4 => exact (Kd.R_reads' HO559.out).2.1); rintro e w' ⟨rfl, ⟨nd, rfl⟩⟩))
            refine Met.intro (hJ_ _ _ ?mg_ ?rel)
            case mg_ => kernel_rfl
            case rel => exact ⟨_, ((t573 != t569)), (by rfl), H', ⟨by have := HJ7.out; have := HJ16.out; omega⟩, ⟨by apply Kd.R_drewN; exact Kd.R_mono HO555.out (fun _ hk => hk.2)⟩, ⟨by apply Kd.R_drewN; exact Kd.R_mono HO567.out (fun _ hk => hk.1.2)⟩, ⟨by (apply pw_below_drewN; exact HB.out)⟩⟩
          ·rw [if_neg c68] at H
           have c68b0 : decide (0 ≤ t551) = false := decide_eq_false c68
           clear c68
           by_cases c74 : (t553 != false) = true
           ·rw [if_pos c74] at H
            have c74b0 : (t553 != false) = true := c74
            (try (have c74b1 : decide (t553 = false) = false := by simpa using c74))
            (try (have c74b2 : (t553 == false) = false := by simpa using c74))
            (try (have c74b3 : ¬ (t553 = false) := by simpa using c74))
            clear c74
            (try ((have c74e : t553 = true := by simpa using c74b0); (subst c74e)))
            have H' := Aside0.mk H
            clear H
            obtain ⟨Ao75, co75, eo75⟩ := Kd.R_slice HO555.out
            subst eo75
            obtain ⟨Ao76, co76, eo76⟩ := Kd.R_slice HO559.out
            subst eo76
            go_wp2_with (first | (go_at_call 8; (with_reducible refine (laws_xSame.calls kj16 _ _ t552 _ _ t556 true _ ?side1 ?side2 ?side3 ?side4 A53.out).mono ?_); (case side1 => exact (Kd.R_reads' HO555.out).2.2); (case side2 => exact (Kd.R_reads' HO555.out).2.1); (case side3 => exact (Kd.R_reads' HO559.out).2.2); (case side4 => exact (Kd.R_reads' HO559.out).2.1); rintro e w' ⟨rfl, ⟨nd, rfl⟩⟩))
            refine Met.intro (hJ_ _ _ ?mg_ ?rel)
            case mg_ => kernel_rfl
            case rel => exact ⟨_, (true), (by rfl), H', ⟨by have := HJ7.out; have := HJ16.out; omega⟩, ⟨by apply Kd.R_drewN; exact Kd.R_mono HO555.out (fun _ hk => hk.2)⟩, ⟨by apply Kd.R_drewN; exact Kd.R_mono HO567.out (fun _ hk => hk.1.2)⟩, ⟨by (apply pw_below_drewN; exact HB.out)⟩⟩
           ·rw [if_neg c74] at H
            have c74b0 : (t553 != false) = false := by simpa using c74
            (try (have c74b1 : decide (t553 = false) = true := by simpa using c74))
            (try (have c74b2 : (t553 == false) = true := by simpa using c74))
            clear c74
            (try ((have c74e : t553 = false := by simpa using c74b0); (subst c74e)))
            have H' := Aside0.mk H
            clear H
            obtain ⟨Ao77, co77, eo77⟩ := Kd.R_slice HO555.out
            subst eo77
            obtain ⟨Ao78, co78, eo78⟩ := Kd.R_slice HO559.out
            subst eo78
            go_wp2_with (first | (go_at_call 8; (with_reducible refine (laws_xSame.calls kj16 _ _ t552 _ _ t556 true _ ?side1 ?side2 ?side3 ?side4 A53.out).mono ?_); (case side1 => exact (Kd.R_reads' HO555.out).2.2); (case side2 => exact (Kd.R_reads' HO555.out).2.1); (case side3 => exact (Kd.R_reads' HO559.out).2.2); (case side4 => exact (Kd.R_reads' HO559.out).2.1); rintro e w' ⟨rfl, ⟨nd, rfl⟩⟩))
            refine Met.intro (hJ_ _ _ ?mg_ ?rel)
            case mg_ => kernel_rfl
            case rel => exact ⟨_, ((t573 != t569)), (by rfl), H', ⟨by have := HJ7.out; have := HJ16.out; omega⟩, ⟨by apply Kd.R_drewN; exact Kd.R_mono HO555.out (fun _ hk => hk.2)⟩, ⟨by apply Kd.R_drewN; exact Kd.R_mono HO567.out (fun _ hk => hk.1.2)⟩, ⟨by (apply pw_below_drewN; exact HB.out)⟩⟩
         ·replace c67 := Bool.eq_false_iff.mpr c67
          subst c67
          rw [if_neg (show ¬ (false = true) by decide)] at H
          have H1 := H
          clear H
          have H := H1
          clear H1
          by_cases c79 : (t553 != false) = true
          ·rw [if_pos c79] at H
           have c79b0 : (t553 != false) = true := c79
           (try (have c79b1 : decide (t553 = false) = false := by simpa using c79))
           (try (have c79b2 : (t553 == false) = false := by simpa using c79))
           (try (have c79b3 : ¬ (t553 = false) := by simpa using c79))
           clear c79
           (try ((have c79e : t553 = true := by simpa using c79b0); (subst c79e)))
           have H' := Aside0.mk H
           clear H
           obtain ⟨Ao80, co80, eo80⟩ := Kd.R_slice HO555.out
           subst eo80
           obtain ⟨Ao81, co81, eo81⟩ := Kd.R_slice HO559.out
           subst eo81
           go_wp2_with (first | (go_at_call 8; (with_reducible refine (laws_xSame.calls kj16 _ _ t552 _ _ t556 true _ ?side1 ?side2 ?side3 ?side4 A53.out).mono ?_); (case side1 => exact (Kd.R_reads' HO555.out).2.2); (case side2 => exact (Kd.R_reads' HO555.out).2.1); (case side3 => exact (Kd.R_reads' HO559.out).2.2); (case side4 => exact (Kd.R_reads' HO559.out).2.1); rintro e w' ⟨rfl, ⟨nd, rfl⟩⟩))
           refine Met.intro (hJ_ _ _ ?mg_ ?rel)
           case mg_ => kernel_rfl
           case rel => exact ⟨_, (true), (by rfl), H', ⟨by have := HJ7.out; have := HJ16.out; omega⟩, ⟨by apply Kd.R_drewN; exact Kd.R_mono HO555.out (fun _ hk => hk.2)⟩, ⟨by apply Kd.R_drewN; exact Kd.R_mono HO567.out (fun _ hk => hk.1.2)⟩, ⟨by (apply pw_below_drewN; exact HB.out)⟩⟩
          ·rw [if_neg c79] at H
           have c79b0 : (t553 != false) = false := by simpa using c79
           (try (have c79b1 : decide (t553 = false) = true := by simpa using c79))
           (try (have c79b2 : (t553 == false) = true := by simpa using c79))
           clear c79
           (try ((have c79e : t553 = false := by simpa using c79b0); (subst c79e)))
           have H' := Aside0.mk H
           clear H
           obtain ⟨Ao82, co82, eo82⟩ := Kd.R_slice HO555.out
           subst eo82
           obtain ⟨Ao83, co83, eo83⟩ := Kd.R_slice HO559.out
           subst eo83
           go_wp2_with (first | (go_at_call 8; (with_reducible refine (laws_xSame.calls kj16 _ _ t552 _ _ t556 true _ ?side1 ?side2 ?side3 ?side4 A53.out).mono ?_); (case side1 => exact (Kd.R_reads' HO555.out).2.2); (case side2 => exact (Kd.R_reads' HO555.out).2.1); (case side3 => exact (Kd.R_reads' HO559.out).2.2); (case side4 => exact (Kd.R_reads' HO559.out).2.1); rintro e w' ⟨rfl, ⟨nd, rfl⟩⟩))
           refine Met.intro (hJ_ _ _ ?mg_ ?rel)
           case mg_ => kernel_rfl
           case rel => exact ⟨_, ((t573 != t569)), (by rfl), H', ⟨by have := HJ7.out; have := HJ16.out; omega⟩, ⟨by apply Kd.R_drewN; exact Kd.R_mono HO555.out (fun _ hk => hk.2)⟩, ⟨by apply Kd.R_drewN; exact Kd.R_mono HO567.out (fun _ hk => hk.1.2)⟩, ⟨by (apply pw_below_drewN; exact HB.out)⟩⟩
        ·rw [if_neg c66] at H
         have c66b0 : (t572 == t574) = false := beq_eq_false_iff_ne.mpr c66
         have c66b1 : (t572 != t574) = true := bne_iff_ne.mpr c66
         have H' := Aside0.mk H
         clear H
         obtain ⟨Ao84, co84, eo84⟩ := Kd.R_slice HO555.out
         subst eo84
         obtain ⟨Ao85, co85, eo85⟩ := Kd.R_slice HO559.out
         subst eo85
         go_wp2_with (first | (go_at_call 8; (with_reducible refine (laws_xSame.calls kj16 _ _ t552 _ _ t556 true _ ?side1 ?side2 ?side3 ?side4 A53.out).mono ?_); (case side1 => exact (Kd.R_reads' HO555.out).2.2); (case side2 => exact (Kd.R_reads' HO555.out).2.1); (case side3 => exact (Kd.R_reads' HO559.out).2.2); (case side4 => exact (Kd.R_reads' HO559.out).2.1); rintro e w' ⟨rfl, ⟨nd, rfl⟩⟩))
         refine Met.intro (hJ_ _ _ ?mg_ ?rel)
         case mg_ => kernel_rfl
         case rel => exact ⟨_, (true), (by rfl), H', ⟨by have := HJ7.out; have := HJ16.out; omega⟩, ⟨by apply Kd.R_drewN; exact Kd.R_mono HO555.out (fun _ hk => hk.2)⟩, ⟨by apply Kd.R_drewN; exact Kd.R_mono HO567.out (fun _ hk => hk.1.2)⟩, ⟨by (apply pw_below_drewN; exact HB.out)⟩⟩
      ·rw [if_neg c62] at H
       have c62b0 : (t568 == t570) = false := beq_eq_false_iff_ne.mpr c62
       have c62b1 : (t568 != t570) = true := bne_iff_ne.mpr c62
       have H' := Aside0.mk H
       clear H
       obtain ⟨Ao86, co86, eo86⟩ := Kd.R_slice HO555.out
       subst eo86
       obtain ⟨Ao87, co87, eo87⟩ := Kd.R_slice HO559.out
       subst eo87
       go_wp2_with (first | (go_at_call 8; (with_reducible refine (laws_xSame.calls kj16 _ _ t552 _ _ t556 true _ ?side1 ?side2 ?side3 ?side4 A53.out).mono ?_); (case side1 => exact (Kd.R_reads' HO555.out).2.2); (case side2 => exact (Kd.R_reads' HO555.out).2.1); (case side3 => exact (Kd.R_reads' HO559.out).2.2); (case side4 => exact (Kd.R_reads' HO559.out).2.1); rintro e w' ⟨rfl, ⟨nd, rfl⟩⟩))
       refine Met.intro (hJ_ _ _ ?mg_ ?rel)
       case mg_ => kernel_rfl
       case rel => exact ⟨_, (true), (by rfl), H', ⟨by have := HJ7.out; have := HJ16.out; omega⟩, ⟨by apply Kd.R_drewN; exact Kd.R_mono HO555.out (fun _ hk => hk.2)⟩, ⟨by apply Kd.R_drewN; exact Kd.R_mono HO567.out (fun _ hk => hk.1.2)⟩, ⟨by (apply pw_below_drewN; exact HB.out)⟩⟩
    ·rw [if_neg c58] at H
     have c58b0 : (t560 == t562) = false := beq_eq_false_iff_ne.mpr c58
     have c58b1 : (t560 != t562) = true := bne_iff_ne.mpr c58
     have H' := Aside0.mk H
     clear H
     obtain ⟨Ao88, co88, eo88⟩ := Kd.R_slice HO555.out
     subst eo88
     obtain ⟨Ao89, co89, eo89⟩ := Kd.R_slice HO559.out
     subst eo89
     go_wp2_with (first | (go_at_call 8; (with_reducible refine (laws_xSame.calls kj16 _ _ t552 _ _ t556 true _ ?side1 ?side2 ?side3 ?side4 A53.out).mono ?_); (case side1 => exact (Kd.R_reads' HO555.out).2.2); (case side2 => exact (Kd.R_reads' HO555.out).2.1); (case side3 => exact (Kd.R_reads' HO559.out).2.2); (case side4 => exact (Kd.R_reads' HO559.out).2.1); rintro e w' ⟨rfl, ⟨nd, rfl⟩⟩))
     refine Met.intro (hJ_ _ _ ?mg_ ?rel)
     case mg_ => kernel_rfl
     case rel => exact ⟨_, (true), (by rfl), H', ⟨by have := HJ7.out; have := HJ16.out; omega⟩, ⟨by apply Kd.R_drewN; exact Kd.R_mono HO555.out (fun _ hk => hk.2)⟩, ⟨by apply Kd.R_drewN; exact Kd.R_mono HO567.out (fun _ hk => hk.1.2)⟩, ⟨by (apply pw_below_drewN; exact HB.out)⟩⟩
  ·replace c54 := Bool.eq_false_iff.mpr c54
   subst c54
   rw [if_neg (show ¬ (false = true) by decide)] at H
   have H1 := H
   clear H
   have H := H1
   clear H1
   have H' := Aside0.mk H
   clear H
   obtain ⟨Ao90, co90, eo90⟩ := Kd.R_slice HO555.out
   subst eo90
   obtain ⟨Ao91, co91, eo91⟩ := Kd.R_slice HO559.out
   subst eo91
   go_wp2_with (first | (go_at_call 8; (with_reducible refine (laws_xSame.calls kj16 _ _ t552 _ _ t556 false _ ?side1 ?side2 ?side3 ?side4 A53.out).mono ?_); (case side1 => exact (Kd.R_reads' HO555.out).2.2); (case side2 => exact (Kd.R_reads' HO555.out).2.1); (case side3 => exact (Kd.R_reads' HO559.out).2.2); (case side4 => exact (Kd.R_reads' HO559.out).2.1); rintro e w' ⟨rfl, ⟨nd, rfl⟩⟩))
   refine Met.intro (hJ_ _ _ ?mg_ ?rel)
   case mg_ => kernel_rfl
   case rel => exact ⟨_, (true), (by rfl), H', ⟨by have := HJ7.out; have := HJ16.out; omega⟩, ⟨by apply Kd.R_drewN; exact Kd.R_mono HO555.out (fun _ hk => hk.2)⟩, ⟨by apply Kd.R_drewN; exact Kd.R_mono HO567.out (fun _ hk => hk.1.2)⟩, ⟨by (apply pw_below_drewN; exact HB.out)⟩⟩
def laws_FnOrdersChange.c6 : PSigma fun P0_ : Prop => PSigma fun P1_ : Prop => Hole P0_ → Hole P1_ → laws_FnOrdersChange.c4.2.1 := by
 refine' ⟨_, _, fun HP0_ HP1_ => _⟩
 rotate_left 2
 intro k A0 c0 l0 A1 c1 l1 r w HR0 HC0 HR1 HC1 A3 t530 t531 A5 t532 t533 A6 t536 t537 A7 _ _ _ w9 w10 v534 w11 v538 HO535 HO539 _ _ _ HO_7 _ kj7 HJ7 _ _ kj16 HJ16 t549 t550 t551 A35 t552 t553 A36 t556 t557 A37 t560 t561 A38 t562 t563 A39 t564 t565 A40 t568 t569 A41 t570 t571 A42 t572 t573 A43 t574 t575 A44 HC45 w46 w47 v554 w48 v558 _ _ w49 Ao50 co50 _ w51 HO555 HO559 HO567 HB _ nd _ _ _ _ f_ wc u270 hcut
 clear HC45
 try clear c1
 try clear c2
 try clear p2
 try clear c3
 try clear c4
 try clear c5
 try clear c6
 try clear p6
 try clear c7
 try clear c9
 try clear c12
 try clear c12b0
 try clear c12b1
 try clear c12b2
 try clear c13
 try clear c14
 try clear c15
 try clear c16
 try clear c17
 try clear c18
 try clear c19
 try clear c20
 try clear c22
 try clear c23
 try clear c23b0
 try clear c23b1
 try clear c25
 try clear c27
 try clear c29
 try clear c29b0
 try clear c29b1
 try clear c52
 try clear c52b0
 try clear c52b1
 try clear c52b2
 try clear c54
 try clear c55
 try clear c55b0
 try clear c55b1
 try clear c55b2
 try clear c58
 try clear c58b0
 try clear c58b1
 try clear c59
 try clear c59b0
 try clear c59b1
 try clear c59b2
 try clear c62
 try clear c62b0
 try clear c62b1
 try clear c63
 try clear c63b0
 try clear c63b1
 try clear c63b2
 try clear p64
 try clear c66
 try clear c66b0
 try clear c66b1
 try clear c67
 try clear c68
 try clear c68b0
 try clear c69
 try clear c69b0
 try clear c69b1
 try clear c69b2
 try clear c74
 try clear c74b0
 try clear c74b1
 try clear c74b2
 try clear c79
 try clear c79b0
 try clear c79b1
 try clear c79b2
 try clear p2
 try clear p6
 obtain ⟨kq, x270_44, rfl, HA, HJ44, HO_18, HO_27, HB⟩ := hcut
 cases kq with
 | zero => exact absurd HA.out (by simp [laws_FnOrdersChange.j3])
 | succ kj44 =>
  have H := HA.out
  clear HA
  simp only [laws_FnOrdersChange.j3] at H
  by_cases c92 : x270_44 = true
  ·subst c92
   rw [if_pos rfl] at H
   have H1 := H
   clear H
   have H := H1
   clear H1
   obtain rfl := Option.some.inj H
   go_wp2
   go_ret
   exact ⟨by rfl, HB.out⟩
  ·replace c92 := Bool.eq_false_iff.mpr c92
   subst c92
   rw [if_neg (show ¬ (false = true) by decide)] at H
   have H1 := H
   clear H
   have H := H1
   clear H1
   have HC93 := Aside0.mk H
   clear H
   go_upto_if 271 with (fail)
   refine wp_cutF [o_,o_,o_,o_,i_,o_,o_,o_,o_,o_,o_,o_,o_,o_,o_,o_,o_,o_,o_,o_,o_,o_,o_,o_,o_,o_,o_,o_,o_,o_,o_,o_,o_,o_,o_,o_,i_,i_,i_,i_,o_,o_,o_,o_,o_,o_,o_,o_,o_,o_,o_,o_,o_,o_,o_,o_,o_,o_,o_,o_,o_,o_,o_,o_,o_,o_,o_,o_,o_,o_,o_,o_,o_,o_,o_,o_,o_,o_,o_,o_,o_,o_,o_,i_,i_,i_,i_,i_,i_,i_,i_,i_,i_,i_,i_,i_,i_,i_,i_,i_,i_,i_,i_,i_,i_,i_,i_,i_,i_,i_,i_,i_,i_,i_,i_,i_,i_,i_,i_,i_,i_,i_,i_,i_,i_,i_,i_,i_,i_,i_,i_,i_,i_,i_,i_,i_,i_,i_,i_,i_,i_,i_,i_,i_,i_,i_,i_,i_,i_,i_,i_,i_,i_,i_,i_,i_,i_,i_,i_,i_,i_,i_,i_,i_,i_,i_,i_,i_,i_,i_,i_,i_,i_,i_,i_,i_,i_,i_,i_,i_,i_,i_,i_,i_,i_,i_,i_,i_,i_,i_,i_,i_,i_,i_,i_,i_,i_,i_,i_,i_,i_,i_,i_,i_,i_,i_,i_,i_,i_,i_,i_,i_,i_,i_,i_,i_,i_,i_,i_,i_,i_,i_,i_,i_,i_,i_,i_,i_,i_,i_,i_,i_,i_,i_,i_,i_,i_,i_,i_,i_,i_,i_,i_,i_,i_,i_,i_,i_,i_,i_,i_,i_,i_,i_,i_,i_,i_,i_,i_,i_,i_,i_,i_,i_,i_,i_,i_,i_,i_,i_,i_,i_,i_,i_,i_,i_,i_,i_,i_,i_,i_,i_,i_,i_,i_,i_,i_,i_,i_,i_,i_,i_,i_,i_,i_,i_,i_,i_,i_,i_,i_,i_,i_,i_,i_,i_,i_,i_,i_,i_,i_,i_,i_,i_,i_,i_,i_,i_,i_,i_,i_,i_,i_,i_,i_,i_,i_,i_,i_,i_,i_,i_,i_,i_,i_,i_,i_,i_,i_,i_,i_,i_,i_,i_,i_,i_,i_,i_,i_,i_,i_,i_,i_,i_,i_,i_,i_,i_,i_,i_,i_,i_,i_,i_,i_,i_,i_,i_,i_,i_,i_,i_,i_,i_,i_,i_,i_,i_,i_,i_,i_,i_,i_,i_,i_,i_,i_,i_,i_,i_,i_,i_,i_,i_,i_,i_,i_,i_,i_,i_,i_,i_,i_,i_,i_,i_,i_,i_,i_,i_,i_,i_,i_,i_,i_,i_,i_,i_,i_,i_,i_,i_,i_,i_,i_,i_,i_,i_,i_,i_,i_,i_,i_,i_,i_,i_,i_,i_,i_,i_,i_,i_,i_,i_,i_,i_,i_,i_,i_,i_,i_,i_,i_,i_,i_,i_,i_,i_,i_,i_,i_,i_,i_,i_,i_,i_,i_,i_,i_,i_,i_,i_,i_,i_,i_,i_,i_,i_,i_,i_,i_,i_,i_,i_,i_,i_,i_,i_,i_,i_,i_,i_,i_,i_,i_,i_,i_,i_,i_,i_,i_,i_,i_,i_,i_,i_,i_,i_,i_,i_,i_,i_,i_,i_,i_,i_,i_,i_,i_,i_,i_,i_,i_,i_,i_,i_,i_,i_,i_,i_,i_,i_,i_,i_,i_,i_,i_,i_,i_,i_,i_,i_,i_,i_,i_,i_,i_,i_,i_,i_,i_,i_,i_,i_,i_,i_,i_,i_,i_,i_,i_,i_,i_,i_,i_,i_,i_,i_,i_,i_,i_,i_,i_,i_,i_,i_,i_,i_,i_,i_,i_,i_,i_,i_,i_,i_,i_,i_,i_,i_,i_,i_,i_,i_,i_,i_,i_,i_,i_,i_,i_,i_,i_,i_,i_] (fun f_ wc => ∃ (kq : Nat), Aside0 (laws_FnOrdersChange.j4 kq l1 t564 t565 t568 t569 t572 = some r) ∧ Aside0 (kq ≤ kj44) ∧ Aside0 (Kd.R (Kd.int .i64) 3 wc w.heap.size (fun _ => True) (.slice Ao50 t565.length co50) t565) ∧ Aside0 (Below w.heap.size w wc)) ?rest ?first
   case first =>
    intro J_ K_ hJ_ hK_
    repeat revert ‹_›
    intro HP0_ HP1_
    exact HP0_.out
   case rest =>
    intro f_ wc hcut
    dsimp only [maskF] at hcut ⊢
    repeat revert ‹_›
    intro HP0_ HP1_
    exact HP1_.out
theorem laws_FnOrdersChange.c7 : laws_FnOrdersChange.c6.1 := by
 intro k A0 c0 l0 A1 c1 l1 r w HR0 HC0 HR1 HC1 A3 t530 t531 A5 t532 t533 A6 t536 t537 A7 _ _ _ w9 w10 v534 w11 v538 HO535 HO539 _ _ _ HO_7 _ kj7 HJ7 _ _ kj16 HJ16 t549 t550 t551 A35 t552 t553 A36 t556 t557 A37 t560 t561 A38 t562 t563 A39 t564 t565 A40 t568 t569 A41 t570 t571 A42 t572 t573 A43 t574 t575 A44 w46 w47 v554 w48 v558 _ _ w49 Ao50 co50 _ w51 HO555 HO559 HO567 _ _ nd f_ wc HO_18 HO_27 HB kj44 HJ44 HC93 _ _ J_ K_ hJ_ hK_
 have H := HC93.out
 clear HC93
 by_cases c94 : t553 = true
 ·subst c94
  rw [if_pos rfl] at H
  have H1 := H
  clear H
  have H := H1
  clear H1
  replace H := Option.bind_eq_some_iff.mp H
  obtain ⟨⟨t577, t578⟩, A950, H⟩ := H
  try dsimp +instances only at H
  replace H := H
  have A95 := Aside0.mk A950
  clear A950
  by_cases c96 : t560 = 0
  ·rw [if_pos c96] at H
   exact absurd H (by simp)
  ·rw [if_neg c96] at H
   have c96b0 : (t560 == 0) = false := beq_eq_false_iff_ne.mpr c96
   have c96b1 : (t560 != 0) = true := bne_iff_ne.mpr c96
   (first | rw [c96b0] | (simp only [i64_w, i32_w]; rw [c96b0]) | skip)
   replace H := Option.bind_eq_some_iff.mp H
   obtain ⟨⟨t579, t580⟩, A970, H⟩ := H
   try dsimp +instances only at H
   replace H := H
   have A97 := Aside0.mk A970
   clear A970
   by_cases c98 : t578 = true
   ·subst c98
    rw [if_pos rfl] at H
    have H1 := H
    clear H
    have H := H1
    clear H1
    by_cases c99 : t577 = t551
    ·rw [if_pos c99] at H
     have c99b0 : (t577 == t551) = true := beq_iff_eq.mpr c99
     have c99b1 : (t577 != t551) = false := bne_eq_false_iff_eq.mpr c99
     clear c99
     by_cases c100 : (t552.length : Int) = t550
     ·rw [if_pos c100] at H
      have c100b0 : ((t552.length : Int) == t550) = true := beq_iff_eq.mpr c100
      have c100b1 : ((t552.length : Int) != t550) = false := bne_eq_false_iff_eq.mpr c100
      clear c100
      replace H := Option.bind_eq_some_iff.mp H
      obtain ⟨t583, A1010, H⟩ := H
      try dsimp +instances only at H
      replace H := H
      have A101 := Aside0.mk A1010
      clear A1010
      by_cases c102 : t583 = true
      ·subst c102
       rw [if_pos rfl] at H
       have H1 := H
       clear H
       have H := H1
       clear H1
       by_cases c103 : t580 = true
       ·subst c103
        rw [if_pos rfl] at H
        have H1 := H
        clear H
        have H := H1
        clear H1
        by_cases c104 : t560 > 1
        ·rw [if_pos c104] at H
         have c104b0 : decide (1 < t560) = true := decide_eq_true c104
         clear c104
         replace H := Option.bind_eq_some_iff.mp H
         obtain ⟨t584, A1050, H⟩ := H
         try dsimp +instances only at H
         replace H := H
         have A105 := Aside0.mk A1050
         clear A1050
         by_cases c106 : t584 = (wrap64 (t550 - 1))
         ·rw [if_pos c106] at H
          have c106b0 : (t584 == (wrap64 (t550 - 1))) = true := beq_iff_eq.mpr c106
          have c106b1 : (t584 != (wrap64 (t550 - 1))) = false := bne_eq_false_iff_eq.mpr c106
          clear c106
          have H' := Aside0.mk H
          clear H
          obtain ⟨Ao107, co107, eo107⟩ := Kd.R_slice HO_18.out
          subst eo107
          go_wp2_with (first | ((with_reducible refine gate_callee (f := 18) rfl ?_); refine goesL_ (some 275) rfl rfl Try.func18 (by kernel_rfl) rfl #[.int .i64 t549, .slice Ao107 t552.length co107] rfl (by (try simp only [List.map_toArray, List.map_cons, List.map_nil]); rfl) ?_; (with_reducible refine (impl_RankOfChoice.calls kj44 t549 _ _ t552 t577 true _ ?side1 ?side2 A95.out).mono ?_); (case side1 => exact (Kd.R_reads' HO_18.out).2.2); (case side2 => exact (Kd.R_reads' HO_18.out).2.1); rintro e w' ⟨rfl, ⟨nd, rfl⟩⟩; refine ⟨_, rfl, ?_⟩) | ((with_reducible refine gate_callee (f := 13) rfl ?_); refine goesL_ (some 285) rfl rfl Try.func13 (by kernel_rfl) rfl #[.int .i64 t549, .int .i64 t550, .int .i64 (Int.tmod (wrap64 (t551 + 1)) t560)] rfl (by (try simp only [List.map_toArray, List.map_cons, List.map_nil]); rfl) ?_; (with_reducible refine (impl_ChoiceAt.calls kj44 t549 t550 (Int.tmod (wrap64 (t551 + 1)) t560) t579 true _ A97.out).mono ?_); rintro e w108 ⟨v581, rfl, ho0, hb⟩; refine ⟨_, rfl, ?_⟩; have n0_ := Aside0.mk (Kd.R_elder' (by apply Kd.R_drewN; exact HO_18.out) (Kd.R_base ho0) hb); have n1_ := Aside0.mk (Kd.R_elder' (by apply Kd.R_drewN; exact HO_27.out) (Kd.R_base ho0) hb); have n2_ := Aside0.mk (Kd.R_lower (Kd.R_new' (Kd.R_new' ho0 (Kd.R_lt (by apply Kd.R_drewN; exact HO_18.out))) (Kd.R_lt (by apply Kd.R_drewN; exact HO_27.out))) (below_size (by (apply pw_below_drewN; exact HB.out)))); have n3_ := Aside0.mk (below_step (by (apply pw_below_drewN; exact HB.out)) hb); clear HO_18; clear HO_27; clear HB; have HO_18 := n0_; have HO_27 := n1_; have HO582 := n2_; have HB := n3_; clear n0_ n1_ n2_ n3_; clear hb; clear ho0) | (go_at_call 10; (with_reducible refine (laws_xRises.calls kj44 _ _ t552 true _ ?side1 ?side2 A101.out).mono ?_); (case side1 => exact (Kd.R_reads' HO_18.out).2.2); (case side2 => exact (Kd.R_reads' HO_18.out).2.1); rintro e w' ⟨rfl, ⟨nd, rfl⟩⟩; obtain ⟨Ao109, co109, eo109⟩ := Kd.R_slice HO582.out; subst eo109) | (go_at_call 11; (with_reducible refine (laws_xCommon.calls kj44 _ _ t552 _ _ t579 t584 _ ?side1 ?side2 ?side3 ?side4 A105.out).mono ?_); (case side1 => exact (Kd.R_reads' HO_18.out).2.2); (case side2 => exact (Kd.R_reads' HO_18.out).2.1); (case side3 => exact (Kd.R_reads' HO582.out).2.2); (case side4 => exact (Kd.R_reads' HO582.out).2.1); rintro e w' ⟨rfl, ⟨nd, rfl⟩⟩))
          refine Met.intro (hJ_ _ _ ?mg_ ?rel)
          case mg_ => kernel_rfl
          case rel => exact ⟨_, H', ⟨by have := HJ7.out; have := HJ16.out; have := HJ44.out; omega⟩, ⟨by apply Kd.R_drewN; exact Kd.R_mono HO_27.out (fun _ hk => trivial)⟩, ⟨by (apply pw_below_drewN; exact HB.out)⟩⟩
         ·rw [if_neg c106] at H
          have c106b0 : (t584 == (wrap64 (t550 - 1))) = false := beq_eq_false_iff_ne.mpr c106
          have c106b1 : (t584 != (wrap64 (t550 - 1))) = true := bne_iff_ne.mpr c106
          obtain rfl := Option.some.inj H
          obtain ⟨Ao110, co110, eo110⟩ := Kd.R_slice HO_18.out
          subst eo110
          go_wp2_with (first | ((with_reducible refine gate_callee (f := 18) rfl ?_); refine goesL_ (some 275) rfl rfl Try.func18 (by kernel_rfl) rfl #[.int .i64 t549, .slice Ao110 t552.length co110] rfl (by (try simp only [List.map_toArray, List.map_cons, List.map_nil]); rfl) ?_; (with_reducible refine (impl_RankOfChoice.calls kj44 t549 _ _ t552 t577 true _ ?side1 ?side2 A95.out).mono ?_); (case side1 => exact (Kd.R_reads' HO_18.out).2.2); (case side2 => exact (Kd.R_reads' HO_18.out).2.1); rintro e w' ⟨rfl, ⟨nd, rfl⟩⟩; refine ⟨_, rfl, ?_⟩) | ((with_reducible refine gate_callee (f := 13) rfl ?_); refine goesL_ (some 285) rfl rfl Try.func13 (by kernel_rfl) rfl #[.int .i64 t549, .int .i64 t550, .int .i64 (Int.tmod (wrap64 (t551 + 1)) t560)] rfl (by (try simp only [List.map_toArray, List.map_cons, List.map_nil]); rfl) ?_; (with_reducible refine (impl_ChoiceAt.calls kj44 t549 t550 (Int.tmod (wrap64 (t551 + 1)) t560) t579 true _ A97.out).mono ?_); rintro e w111 ⟨v581, rfl, ho0, hb⟩; refine ⟨_, rfl, ?_⟩; have n0_ := Aside0.mk (Kd.R_elder' (by apply Kd.R_drewN; exact HO_18.out) (Kd.R_base ho0) hb); have n1_ := Aside0.mk (Kd.R_elder' (by apply Kd.R_drewN; exact HO_27.out) (Kd.R_base ho0) hb); have n2_ := Aside0.mk (Kd.R_lower (Kd.R_new' (Kd.R_new' ho0 (Kd.R_lt (by apply Kd.R_drewN; exact HO_18.out))) (Kd.R_lt (by apply Kd.R_drewN; exact HO_27.out))) (below_size (by (apply pw_below_drewN; exact HB.out)))); have n3_ := Aside0.mk (below_step (by (apply pw_below_drewN; exact HB.out)) hb); clear HO_18; clear HO_27; clear HB; have HO_18 := n0_; have HO_27 := n1_; have HO582 := n2_; have HB := n3_; clear n0_ n1_ n2_ n3_; clear hb; clear ho0) | (go_at_call 10; (with_reducible refine (laws_xRises.calls kj44 _ _ t552 true _ ?side1 ?side2 A101.out).mono ?_); (case side1 => exact (Kd.R_reads' HO_18.out).2.2); (case side2 => exact (Kd.R_reads' HO_18.out).2.1); rintro e w' ⟨rfl, ⟨nd, rfl⟩⟩; obtain ⟨Ao112, co112, eo112⟩ := Kd.R_slice HO582.out; subst eo112) | (go_at_call 11; (with_reducible refine (laws_xCommon.calls kj44 _ _ t552 _ _ t579 t584 _ ?side1 ?side2 ?side3 ?side4 A105.out).mono ?_); (case side1 => exact (Kd.R_reads' HO_18.out).2.2); (case side2 => exact (Kd.R_reads' HO_18.out).2.1); (case side3 => exact (Kd.R_reads' HO582.out).2.2); (case side4 => exact (Kd.R_reads' HO582.out).2.1); rintro e w' ⟨rfl, ⟨nd, rfl⟩⟩))
          go_ret
          exact ⟨by rfl, by (apply pw_below_drewN; exact HB.out)⟩
        ·rw [if_neg c104] at H
         have c104b0 : decide (1 < t560) = false := decide_eq_false c104
         clear c104
         have H' := Aside0.mk H
         clear H
         obtain ⟨Ao113, co113, eo113⟩ := Kd.R_slice HO_18.out
         subst eo113
         go_wp2_with (first | ((with_reducible refine gate_callee (f := 18) rfl ?_); refine goesL_ (some 275) rfl rfl Try.func18 (by kernel_rfl) rfl #[.int .i64 t549, .slice Ao113 t552.length co113] rfl (by (try simp only [List.map_toArray, List.map_cons, List.map_nil]); rfl) ?_; (with_reducible refine (impl_RankOfChoice.calls kj44 t549 _ _ t552 t577 true _ ?side1 ?side2 A95.out).mono ?_); (case side1 => exact (Kd.R_reads' HO_18.out).2.2); (case side2 => exact (Kd.R_reads' HO_18.out).2.1); rintro e w' ⟨rfl, ⟨nd, rfl⟩⟩; refine ⟨_, rfl, ?_⟩) | ((with_reducible refine gate_callee (f := 13) rfl ?_); refine goesL_ (some 285) rfl rfl Try.func13 (by kernel_rfl) rfl #[.int .i64 t549, .int .i64 t550, .int .i64 (Int.tmod (wrap64 (t551 + 1)) t560)] rfl (by (try simp only [List.map_toArray, List.map_cons, List.map_nil]); rfl) ?_; (with_reducible refine (impl_ChoiceAt.calls kj44 t549 t550 (Int.tmod (wrap64 (t551 + 1)) t560) t579 true _ A97.out).mono ?_); rintro e w114 ⟨v581, rfl, ho0, hb⟩; refine ⟨_, rfl, ?_⟩; have n0_ := Aside0.mk (Kd.R_elder' (by apply Kd.R_drewN; exact HO_18.out) (Kd.R_base ho0) hb); have n1_ := Aside0.mk (Kd.R_elder' (by apply Kd.R_drewN; exact HO_27.out) (Kd.R_base ho0) hb); have n2_ := Aside0.mk (Kd.R_lower (Kd.R_new' (Kd.R_new' ho0 (Kd.R_lt (by apply Kd.R_drewN; exact HO_18.out))) (Kd.R_lt (by apply Kd.R_drewN; exact HO_27.out))) (below_size (by (apply pw_below_drewN; exact HB.out)))); have n3_ := Aside0.mk (below_step (by (apply pw_below_drewN; exact HB.out)) hb); clear HO_18; clear HO_27; clear HB; have HO_18 := n0_; have HO_27 := n1_; have HO582 := n2_; have HB := n3_; clear n0_ n1_ n2_ n3_; clear hb; clear ho0) | (go_at_call 10; (with_reducible refine (laws_xRises.calls kj44 _ _ t552 true _ ?side1 ?side2 A101.out).mono ?_); (case side1 => exact (Kd.R_reads' HO_18.out).2.2); (case side2 => exact (Kd.R_reads' HO_18.out).2.1); rintro e w' ⟨rfl, ⟨nd, rfl⟩⟩))
         refine Met.intro (hJ_ _ _ ?mg_ ?rel)
         case mg_ => kernel_rfl
         case rel => exact ⟨_, H', ⟨by have := HJ7.out; have := HJ16.out; have := HJ44.out; omega⟩, ⟨by apply Kd.R_drewN; exact Kd.R_mono HO_27.out (fun _ hk => trivial)⟩, ⟨by (apply pw_below_drewN; exact HB.out)⟩⟩
       ·replace c103 := Bool.eq_false_iff.mpr c103
        subst c103
        rw [if_neg (show ¬ (false = true) by decide)] at H
        have H1 := H
        clear H
        have H := H1
        clear H1
        obtain rfl := Option.some.inj H
        obtain ⟨Ao115, co115, eo115⟩ := Kd.R_slice HO_18.out
        subst eo115
        go_wp2_with (first | ((with_reducible refine gate_callee (f := 18) rfl ?_); refine goesL_ (some 275) rfl rfl Try.func18 (by kernel_rfl) rfl #[.int .i64 t549, .slice Ao115 t552.length co115] rfl (by (try simp only [List.map_toArray, List.map_cons, List.map_nil]); rfl) ?_; (with_reducible refine (impl_RankOfChoice.calls kj44 t549 _ _ t552 t577 true _ ?side1 ?side2 A95.out).mono ?_); (case side1 => exact (Kd.R_reads' HO_18.out).2.2); (case side2 => exact (Kd.R_reads' HO_18.out).2.1); rintro e w' ⟨rfl, ⟨nd, rfl⟩⟩; refine ⟨_, rfl, ?_⟩) | ((with_reducible refine gate_callee (f := 13) rfl ?_); refine goesL_ (some 285) rfl rfl Try.func13 (by kernel_rfl) rfl #[.int .i64 t549, .int .i64 t550, .int .i64 (Int.tmod (wrap64 (t551 + 1)) t560)] rfl (by (try simp only [List.map_toArray, List.map_cons, List.map_nil]); rfl) ?_; (with_reducible refine (impl_ChoiceAt.calls kj44 t549 t550 (Int.tmod (wrap64 (t551 + 1)) t560) t579 false _ A97.out).mono ?_); rintro e w116 ⟨v581, rfl, ho0, hb⟩; refine ⟨_, rfl, ?_⟩; have n0_ := Aside0.mk (Kd.R_elder' (by apply Kd.R_drewN; exact HO_18.out) (Kd.R_base ho0) hb); have n1_ := Aside0.mk (Kd.R_elder' (by apply Kd.R_drewN; exact HO_27.out) (Kd.R_base ho0) hb); have n2_ := Aside0.mk (Kd.R_lower (Kd.R_new' (Kd.R_new' ho0 (Kd.R_lt (by apply Kd.R_drewN; exact HO_18.out))) (Kd.R_lt (by apply Kd.R_drewN; exact HO_27.out))) (below_size (by (apply pw_below_drewN; exact HB.out)))); have n3_ := Aside0.mk (below_step (by (apply pw_below_drewN; exact HB.out)) hb); clear HO_18; clear HO_27; clear HB; have HO_18 := n0_; have HO_27 := n1_; have HO582 := n2_; have HB := n3_; clear n0_ n1_ n2_ n3_; clear hb; clear ho0) | (go_at_call 10; (with_reducible refine (laws_xRises.calls kj44 _ _ t552 true _ ?side1 ?side2 A101.out).mono ?_); (case side1 => exact (Kd.R_reads' HO_18.out).2.2); (case side2 => exact (Kd.R_reads' HO_18.out).2.1); rintro e w' ⟨rfl, ⟨nd, rfl⟩⟩))
        go_ret
        exact ⟨by rfl, by (apply pw_below_drewN; exact HB.out)⟩
      ·replace c102 := Bool.eq_false_iff.mpr c102
       subst c102
       rw [if_neg (show ¬ (false = true) by decide)] at H
       have H1 := H
       clear H
       have H := H1
       clear H1
       obtain rfl := Option.some.inj H
       obtain ⟨Ao117, co117, eo117⟩ := Kd.R_slice HO_18.out
       subst eo117
       go_wp2_with (first | ((with_reducible refine gate_callee (f := 18) rfl ?_); refine goesL_ (some 275) rfl rfl Try.func18 (by kernel_rfl) rfl #[.int .i64 t549, .slice Ao117 t552.length co117] rfl (by (try simp only [List.map_toArray, List.map_cons, List.map_nil]); rfl) ?_; (with_reducible refine (impl_RankOfChoice.calls kj44 t549 _ _ t552 t577 true _ ?side1 ?side2 A95.out).mono ?_); (case side1 => exact (Kd.R_reads' HO_18.out).2.2); (case side2 => exact (Kd.R_reads' HO_18.out).2.1); rintro e w' ⟨rfl, ⟨nd, rfl⟩⟩; refine ⟨_, rfl, ?_⟩) | ((with_reducible refine gate_callee (f := 13) rfl ?_); refine goesL_ (some 285) rfl rfl Try.func13 (by kernel_rfl) rfl #[.int .i64 t549, .int .i64 t550, .int .i64 (Int.tmod (wrap64 (t551 + 1)) t560)] rfl (by (try simp only [List.map_toArray, List.map_cons, List.map_nil]); rfl) ?_; (with_reducible refine (impl_ChoiceAt.calls kj44 t549 t550 (Int.tmod (wrap64 (t551 + 1)) t560) t579 t580 _ A97.out).mono ?_); rintro e w118 ⟨v581, rfl, ho0, hb⟩; refine ⟨_, rfl, ?_⟩; have n0_ := Aside0.mk (Kd.R_elder' (by apply Kd.R_drewN; exact HO_18.out) (Kd.R_base ho0) hb); have n1_ := Aside0.mk (Kd.R_elder' (by apply Kd.R_drewN; exact HO_27.out) (Kd.R_base ho0) hb); have n2_ := Aside0.mk (Kd.R_lower (Kd.R_new' (Kd.R_new' ho0 (Kd.R_lt (by apply Kd.R_drewN; exact HO_18.out))) (Kd.R_lt (by apply Kd.R_drewN; exact HO_27.out))) (below_size (by (apply pw_below_drewN; exact HB.out)))); have n3_ := Aside0.mk (below_step (by (apply pw_below_drewN; exact HB.out)) hb); clear HO_18; clear HO_27; clear HB; have HO_18 := n0_; have HO_27 := n1_; have HO582 := n2_; have HB := n3_; clear n0_ n1_ n2_ n3_; clear hb; clear ho0) | (go_at_call 10; (with_reducible refine (laws_xRises.calls kj44 _ _ t552 false _ ?side1 ?side2 A101.out).mono ?_); (case side1 => exact (Kd.R_reads' HO_18.out).2.2); (case side2 => exact (Kd.R_reads' HO_18.out).2.1); rintro e w' ⟨rfl, ⟨nd, rfl⟩⟩))
       go_ret
       exact ⟨by rfl, by (apply pw_below_drewN; exact HB.out)⟩
     ·rw [if_neg c100] at H
      have c100b0 : ((t552.length : Int) == t550) = false := beq_eq_false_iff_ne.mpr c100
      have c100b1 : ((t552.length : Int) != t550) = true := bne_iff_ne.mpr c100
      obtain rfl := Option.some.inj H
      obtain ⟨Ao119, co119, eo119⟩ := Kd.R_slice HO_18.out
      subst eo119
      go_wp2_with (first | ((with_reducible refine gate_callee (f := 18) rfl ?_); refine goesL_ (some 275) rfl rfl Try.func18 (by kernel_rfl) rfl #[.int .i64 t549, .slice Ao119 t552.length co119] rfl (by (try simp only [List.map_toArray, List.map_cons, List.map_nil]); rfl) ?_; (with_reducible refine (impl_RankOfChoice.calls kj44 t549 _ _ t552 t577 true _ ?side1 ?side2 A95.out).mono ?_); (case side1 => exact (Kd.R_reads' HO_18.out).2.2); (case side2 => exact (Kd.R_reads' HO_18.out).2.1); rintro e w' ⟨rfl, ⟨nd, rfl⟩⟩; refine ⟨_, rfl, ?_⟩) | ((with_reducible refine gate_callee (f := 13) rfl ?_); refine goesL_ (some 285) rfl rfl Try.func13 (by kernel_rfl) rfl #[.int .i64 t549, .int .i64 t550, .int .i64 (Int.tmod (wrap64 (t551 + 1)) t560)] rfl (by (try simp only [List.map_toArray, List.map_cons, List.map_nil]); rfl) ?_; (with_reducible refine (impl_ChoiceAt.calls kj44 t549 t550 (Int.tmod (wrap64 (t551 + 1)) t560) t579 t580 _ A97.out).mono ?_); rintro e w120 ⟨v581, rfl, ho0, hb⟩; refine ⟨_, rfl, ?_⟩; have n0_ := Aside0.mk (Kd.R_elder' (by apply Kd.R_drewN; exact HO_18.out) (Kd.R_base ho0) hb); have n1_ := Aside0.mk (Kd.R_elder' (by apply Kd.R_drewN; exact HO_27.out) (Kd.R_base ho0) hb); have n2_ := Aside0.mk (Kd.R_lower (Kd.R_new' (Kd.R_new' ho0 (Kd.R_lt (by apply Kd.R_drewN; exact HO_18.out))) (Kd.R_lt (by apply Kd.R_drewN; exact HO_27.out))) (below_size (by (apply pw_below_drewN; exact HB.out)))); have n3_ := Aside0.mk (below_step (by (apply pw_below_drewN; exact HB.out)) hb); clear HO_18; clear HO_27; clear HB; have HO_18 := n0_; have HO_27 := n1_; have HO582 := n2_; have HB := n3_; clear n0_ n1_ n2_ n3_; clear hb; clear ho0))
      go_ret
      exact ⟨by rfl, HB.out⟩
    ·rw [if_neg c99] at H
     have c99b0 : (t577 == t551) = false := beq_eq_false_iff_ne.mpr c99
     have c99b1 : (t577 != t551) = true := bne_iff_ne.mpr c99
     obtain rfl := Option.some.inj H
     obtain ⟨Ao121, co121, eo121⟩ := Kd.R_slice HO_18.out
     subst eo121
     go_wp2_with (first | ((with_reducible refine gate_callee (f := 18) rfl ?_); refine goesL_ (some 275) rfl rfl Try.func18 (by kernel_rfl) rfl #[.int .i64 t549, .slice Ao121 t552.length co121] rfl (by (try simp only [List.map_toArray, List.map_cons, List.map_nil]); rfl) ?_; (with_reducible refine (impl_RankOfChoice.calls kj44 t549 _ _ t552 t577 true _ ?side1 ?side2 A95.out).mono ?_); (case side1 => exact (Kd.R_reads' HO_18.out).2.2); (case side2 => exact (Kd.R_reads' HO_18.out).2.1); rintro e w' ⟨rfl, ⟨nd, rfl⟩⟩; refine ⟨_, rfl, ?_⟩) | ((with_reducible refine gate_callee (f := 13) rfl ?_); refine goesL_ (some 285) rfl rfl Try.func13 (by kernel_rfl) rfl #[.int .i64 t549, .int .i64 t550, .int .i64 (Int.tmod (wrap64 (t551 + 1)) t560)] rfl (by (try simp only [List.map_toArray, List.map_cons, List.map_nil]); rfl) ?_; (with_reducible refine (impl_ChoiceAt.calls kj44 t549 t550 (Int.tmod (wrap64 (t551 + 1)) t560) t579 t580 _ A97.out).mono ?_); rintro e w122 ⟨v581, rfl, ho0, hb⟩; refine ⟨_, rfl, ?_⟩; have n0_ := Aside0.mk (Kd.R_elder' (by apply Kd.R_drewN; exact HO_18.out) (Kd.R_base ho0) hb); have n1_ := Aside0.mk (Kd.R_elder' (by apply Kd.R_drewN; exact HO_27.out) (Kd.R_base ho0) hb); have n2_ := Aside0.mk (Kd.R_lower (Kd.R_new' (Kd.R_new' ho0 (Kd.R_lt (by apply Kd.R_drewN; exact HO_18.out))) (Kd.R_lt (by apply Kd.R_drewN; exact HO_27.out))) (below_size (by (apply pw_below_drewN; exact HB.out)))); have n3_ := Aside0.mk (below_step (by (apply pw_below_drewN; exact HB.out)) hb); clear HO_18; clear HO_27; clear HB; have HO_18 := n0_; have HO_27 := n1_; have HO582 := n2_; have HB := n3_; clear n0_ n1_ n2_ n3_; clear hb; clear ho0))
     go_ret
     exact ⟨by rfl, HB.out⟩
   ·replace c98 := Bool.eq_false_iff.mpr c98
    subst c98
    rw [if_neg (show ¬ (false = true) by decide)] at H
    have H1 := H
    clear H
    have H := H1
    clear H1
    obtain rfl := Option.some.inj H
    obtain ⟨Ao123, co123, eo123⟩ := Kd.R_slice HO_18.out
    subst eo123
    go_wp2_with (first | ((with_reducible refine gate_callee (f := 18) rfl ?_); refine goesL_ (some 275) rfl rfl Try.func18 (by kernel_rfl) rfl #[.int .i64 t549, .slice Ao123 t552.length co123] rfl (by (try simp only [List.map_toArray, List.map_cons, List.map_nil]); rfl) ?_; (with_reducible refine (impl_RankOfChoice.calls kj44 t549 _ _ t552 t577 false _ ?side1 ?side2 A95.out).mono ?_); (case side1 => exact (Kd.R_reads' HO_18.out).2.2); (case side2 => exact (Kd.R_reads' HO_18.out).2.1); rintro e w' ⟨rfl, ⟨nd, rfl⟩⟩; refine ⟨_, rfl, ?_⟩) | ((with_reducible refine gate_callee (f := 13) rfl ?_); refine goesL_ (some 285) rfl rfl Try.func13 (by kernel_rfl) rfl #[.int .i64 t549, .int .i64 t550, .int .i64 (Int.tmod (wrap64 (t551 + 1)) t560)] rfl (by (try simp only [List.map_toArray, List.map_cons, List.map_nil]); rfl) ?_; (with_reducible refine (impl_ChoiceAt.calls kj44 t549 t550 (Int.tmod (wrap64 (t551 + 1)) t560) t579 t580 _ A97.out).mono ?_); rintro e w124 ⟨v581, rfl, ho0, hb⟩; refine ⟨_, rfl, ?_⟩; have n0_ := Aside0.mk (Kd.R_elder' (by apply Kd.R_drewN; exact HO_18.out) (Kd.R_base ho0) hb); have n1_ := Aside0.mk (Kd.R_elder' (by apply Kd.R_drewN; exact HO_27.out) (Kd.R_base ho0) hb); have n2_ := Aside0.mk (Kd.R_lower (Kd.R_new' (Kd.R_new' ho0 (Kd.R_lt (by apply Kd.R_drewN; exact HO_18.out))) (Kd.R_lt (by apply Kd.R_drewN; exact HO_27.out))) (below_size (by (apply pw_below_drewN; exact HB.out)))); have n3_ := Aside0.mk (below_step (by (apply pw_below_drewN; exact HB.out)) hb); clear HO_18; clear HO_27; clear HB; have HO_18 := n0_; have HO_27 := n1_; have HO582 := n2_; have HB := n3_; clear n0_ n1_ n2_ n3_; clear hb; clear ho0))
    go_ret
    exact ⟨by rfl, HB.out⟩
 ·replace c94 := Bool.eq_false_iff.mpr c94
  subst c94
  rw [if_neg (show ¬ (false = true) by decide)] at H
  have H1 := H
  clear H
  have H := H1
  clear H1
  have H' := Aside0.mk H
  clear H
  go_wp2
  refine Met.intro (hJ_ _ _ ?mg_ ?rel)
  case mg_ => kernel_rfl
  case rel => exact ⟨_, H', ⟨by have := HJ7.out; have := HJ16.out; have := HJ44.out; omega⟩, ⟨by exact Kd.R_mono HO_27.out (fun _ hk => trivial)⟩, ⟨HB.out⟩⟩
def laws_FnOrdersChange.c8 : PSigma fun P0_ : Prop => PSigma fun P1_ : Prop => Hole P0_ → Hole P1_ → laws_FnOrdersChange.c6.2.1 := by
 refine' ⟨_, _, fun HP0_ HP1_ => _⟩
 rotate_left 2
 intro k A0 c0 l0 A1 c1 l1 r w HR0 HC0 HR1 HC1 A3 t530 t531 A5 t532 t533 A6 t536 t537 A7 _ _ _ w9 w10 v534 w11 v538 HO535 HO539 _ _ _ HO_7 _ kj7 HJ7 _ _ kj16 HJ16 t549 t550 t551 A35 t552 t553 A36 t556 t557 A37 t560 t561 A38 t562 t563 A39 t564 t565 A40 t568 t569 A41 t570 t571 A42 t572 t573 A43 t574 t575 A44 w46 w47 v554 w48 v558 _ _ w49 Ao50 co50 _ w51 HO555 HO559 HO567 _ _ nd _ _ HO_18 HO_27 HB kj44 HJ44 HC93 _ _ f_ wc hcut
 clear HC93
 try clear c1
 try clear c2
 try clear p2
 try clear c3
 try clear c4
 try clear c5
 try clear c6
 try clear p6
 try clear c7
 try clear c9
 try clear c10
 try clear c12
 try clear c12b0
 try clear c12b1
 try clear c12b2
 try clear c13
 try clear c14
 try clear c15
 try clear c16
 try clear c17
 try clear c18
 try clear c19
 try clear c20
 try clear c22
 try clear c23
 try clear c23b0
 try clear c23b1
 try clear c25
 try clear c27
 try clear c29
 try clear c29b0
 try clear c29b1
 try clear c52
 try clear c52b0
 try clear c52b1
 try clear c52b2
 try clear c54
 try clear c55
 try clear c55b0
 try clear c55b1
 try clear c55b2
 try clear c58
 try clear c58b0
 try clear c58b1
 try clear c59
 try clear c59b0
 try clear c59b1
 try clear c59b2
 try clear c62
 try clear c62b0
 try clear c62b1
 try clear c63
 try clear c63b0
 try clear c63b1
 try clear c63b2
 try clear p64
 try clear c66
 try clear c66b0
 try clear c66b1
 try clear c67
 try clear c68
 try clear c68b0
 try clear c69
 try clear c69b0
 try clear c69b1
 try clear c69b2
 try clear c74
 try clear c74b0
 try clear c74b1
 try clear c74b2
 try clear c79
 try clear c79b0
 try clear c79b1
 try clear c79b2
 try clear c92
 try clear c94
 try clear c96
 try clear c96b0
 try clear c96b1
 try clear c98
 try clear c99
 try clear c99b0
 try clear c99b1
 try clear c100
 try clear c100b0
 try clear c100b1
 try clear c102
 try clear c103
 try clear c104
 try clear c104b0
 try clear c106
 try clear c106b0
 try clear c106b1
 try clear p2
 try clear p6
 try clear p64
 obtain ⟨kq, HA, HJ92, HO_27, HB⟩ := hcut
 cases kq with
 | zero => exact absurd HA.out (by simp [laws_FnOrdersChange.j4])
 | succ kj92 =>
  have H := HA.out
  clear HA
  simp only [laws_FnOrdersChange.j4] at H
  have HC125 := Aside0.mk H
  clear H
  go_upto_if 322 with (fail)
  refine wp_cutF [o_,o_,o_,o_,i_,o_,o_,o_,o_,o_,o_,o_,o_,o_,o_,o_,o_,o_,o_,o_,o_,o_,o_,o_,o_,o_,o_,o_,o_,o_,o_,o_,o_,o_,o_,o_,o_,o_,o_,o_,i_,i_,i_,i_,o_,o_,o_,o_,o_,o_,o_,o_,o_,o_,o_,o_,o_,o_,o_,o_,o_,o_,o_,o_,o_,o_,o_,o_,o_,o_,o_,o_,o_,o_,o_,o_,o_,o_,o_,o_,o_,o_,o_,i_,i_,i_,i_,i_,i_,i_,i_,i_,i_,i_,i_,i_,i_,i_,i_,i_,i_,i_,i_,i_,i_,i_,i_,i_,i_,i_,i_,i_,i_,i_,i_,i_,i_,i_,i_,i_,i_,i_,i_,i_,i_,i_,i_,i_,i_,i_,i_,i_,i_,i_,i_,i_,i_,i_,i_,i_,i_,i_,i_,i_,i_,i_,i_,i_,i_,i_,i_,i_,i_,i_,i_,i_,i_,i_,i_,i_,i_,i_,i_,i_,i_,i_,i_,i_,i_,i_,i_,i_,i_,i_,i_,i_,i_,i_,i_,i_,i_,i_,i_,i_,i_,i_,i_,i_,i_,i_,i_,i_,i_,i_,i_,i_,i_,i_,i_,i_,i_,i_,i_,i_,i_,i_,i_,i_,i_,i_,i_,i_,i_,i_,i_,i_,i_,i_,i_,i_,i_,i_,i_,i_,i_,i_,i_,i_,i_,i_,i_,i_,i_,i_,i_,i_,i_,i_,i_,i_,i_,i_,i_,i_,i_,i_,i_,i_,i_,i_,i_,i_,i_,i_,i_,i_,i_,i_,i_,i_,i_,i_,i_,i_,i_,i_,i_,i_,i_,i_,i_,i_,i_,i_,i_,i_,i_,i_,i_,i_,i_,i_,i_,i_,i_,i_,i_,i_,i_,i_,i_,i_,i_,i_,i_,i_,i_,i_,i_,i_,i_,i_,i_,i_,i_,i_,i_,i_,i_,i_,i_,i_,i_,i_,i_,i_,i_,i_,i_,i_,i_,i_,i_,i_,i_,i_,i_,i_,i_,i_,i_,i_,i_,i_,i_,i_,i_,i_,i_,i_,i_,i_,i_,i_,i_,i_,i_,i_,i_,i_,i_,i_,i_,i_,i_,i_,i_,i_,i_,i_,i_,i_,i_,i_,i_,i_,i_,i_,i_,i_,i_,i_,i_,i_,i_,i_,i_,i_,i_,i_,i_,i_,i_,i_,i_,i_,i_,i_,i_,i_,i_,i_,i_,i_,i_,i_,i_,i_,i_,i_,i_,i_,i_,i_,i_,i_,i_,i_,i_,i_,i_,i_,i_,i_,i_,i_,i_,i_,i_,i_,i_,i_,i_,i_,i_,i_,i_,i_,i_,i_,i_,i_,i_,i_,i_,i_,i_,i_,i_,i_,i_,i_,i_,i_,i_,i_,i_,i_,i_,i_,i_,i_,i_,i_,i_,i_,i_,i_,i_,i_,i_,i_,i_,i_,i_,i_,i_,i_,i_,i_,i_,i_,i_,i_,i_,i_,i_,i_,i_,i_,i_,i_,i_,i_,i_,i_,i_,i_,i_,i_,i_,i_,i_,i_,i_,i_,i_,i_,i_,i_,i_,i_,i_,i_,i_,i_,i_,i_,i_,i_,i_,i_,i_,i_,i_,i_,i_,i_,i_,i_,i_,i_,i_,i_,i_,i_,i_,i_,i_,i_,i_,i_,i_,i_,i_,i_,i_,i_,i_,i_,i_,i_,i_,i_,i_,i_,i_,i_,i_,i_,i_,i_,i_,i_,i_,i_,i_,i_,i_,i_,i_,i_,i_,i_,i_,i_,i_,i_,i_,i_,i_,i_,i_,i_,i_,i_,i_,i_,i_,i_,i_,i_,i_,i_,i_,i_,i_,i_,i_,i_,i_,i_,i_,i_,i_,i_,i_,i_,i_,i_,i_,i_,i_,i_,i_] (fun f_ wc => ∃ (kq : Nat), Aside0 (laws_FnOrdersChange.j5 kq l1 = some r) ∧ Aside0 (kq ≤ kj92) ∧ Aside0 (Below w.heap.size w wc)) ?rest ?first
  case first =>
   intro J_ K_ hJ_ hK_
   repeat revert ‹_›
   intro HP0_ HP1_
   exact HP0_.out
  case rest =>
   intro f_ wc hcut
   dsimp only [maskF] at hcut ⊢
   repeat revert ‹_›
   intro HP0_ HP1_
   exact HP1_.out
theorem laws_FnOrdersChange.c9 : laws_FnOrdersChange.c8.1 := by
 intro k A0 c0 l0 A1 c1 l1 r w HR0 HC0 HR1 HC1 A3 t530 t531 A5 t532 t533 A6 t536 t537 A7 _ _ _ w9 w10 v534 w11 v538 HO535 HO539 _ _ _ HO_7 _ kj7 HJ7 _ _ kj16 HJ16 t549 t550 t551 A35 t552 t553 A36 t556 t557 A37 t560 t561 A38 t562 t563 A39 t564 t565 A40 t568 t569 A41 t570 t571 A42 t572 t573 A43 t574 t575 A44 w46 w47 v554 w48 v558 _ _ w49 Ao50 co50 _ w51 HO555 HO559 HO567 _ _ nd _ _ HO_18 _ _ kj44 HJ44 f_ wc HO_27 HB kj92 HJ92 HC125 _ _ J_ K_ hJ_ hK_
 have H := HC125.out
 clear HC125
 by_cases c126 : t569 = true
 ·subst c126
  rw [if_pos rfl] at H
  have H1 := H
  clear H
  have H := H1
  clear H1
  replace H := Option.bind_eq_some_iff.mp H
  obtain ⟨⟨t585, t586⟩, A1270, H⟩ := H
  try dsimp +instances only at H
  replace H := H
  have A127 := Aside0.mk A1270
  clear A1270
  replace H := Option.bind_eq_some_iff.mp H
  obtain ⟨⟨t589, t590⟩, A1280, H⟩ := H
  try dsimp +instances only at H
  replace H := H
  have A128 := Aside0.mk A1280
  clear A1280
  by_cases c129 : t586 = true
  ·subst c129
   rw [if_pos rfl] at H
   have H1 := H
   clear H
   have H := H1
   clear H1
   replace H := Option.bind_eq_some_iff.mp H
   obtain ⟨t593, A1300, H⟩ := H
   try dsimp +instances only at H
   replace H := H
   have A130 := Aside0.mk A1300
   clear A1300
   by_cases c131 : t593 = true
   ·subst c131
    rw [if_pos rfl] at H
    have H1 := H
    clear H
    have H := H1
    clear H1
    by_cases c132 : t590 = true
    ·subst c132
     rw [if_pos rfl] at H
     have H1 := H
     clear H
     have H := H1
     clear H1
     replace H := Option.bind_eq_some_iff.mp H
     obtain ⟨t594, A1330, H⟩ := H
     try dsimp +instances only at H
     replace H := H
     have A133 := Aside0.mk A1330
     clear A1330
     by_cases c134 : t594 = true
     ·subst c134
      rw [if_pos rfl] at H
      have H1 := H
      clear H
      have H := H1
      clear H1
      have H' := Aside0.mk H
      clear H
      go_wp2_with (first | ((with_reducible refine gate_callee (f := 13) rfl ?_); refine goesL_ (some 328) rfl rfl Try.func13 (by kernel_rfl) rfl #[.int .i64 t564, .int .i64 (t565.length : Int), .int .i64 t568] rfl (by (try simp only [List.map_toArray, List.map_cons, List.map_nil]); rfl) ?_; (with_reducible refine (impl_ChoiceAt.calls kj92 t564 (t565.length : Int) t568 t585 true _ A127.out).mono ?_); rintro e w135 ⟨v587, rfl, ho0, hb⟩; refine ⟨_, rfl, ?_⟩; have n0_ := Aside0.mk (Kd.R_elder' (HO_27.out) (Kd.R_base ho0) hb); have n1_ := Aside0.mk (Kd.R_lower (Kd.R_new' ho0 (Kd.R_lt (HO_27.out))) (below_size (HB.out))); have n2_ := Aside0.mk (below_step (HB.out) hb); clear HO_27; clear HB; have HO_27 := n0_; have HO588 := n1_; have HB := n2_; clear n0_ n1_ n2_; clear hb; clear ho0) | ((with_reducible refine gate_callee (f := 6) rfl ?_); refine goesL_ (some 334) rfl rfl Try.func6 (by kernel_rfl) rfl #[.int .i64 t564, .int .i64 t572] rfl (by (try simp only [List.map_toArray, List.map_cons, List.map_nil]); rfl) ?_; (with_reducible refine (impl_SetAt.calls kj92 t564 t572 t589 true _ A128.out).mono ?_); rintro e w136 ⟨v591, rfl, ho0, hb⟩; refine ⟨_, rfl, ?_⟩; have n0_ := Aside0.mk (Kd.R_elder' (HO_27.out) (Kd.R_base ho0) hb); have n1_ := Aside0.mk (Kd.R_elder' (HO588.out) (Kd.R_base ho0) hb); have n2_ := Aside0.mk (Kd.R_lower (Kd.R_new' (Kd.R_new' ho0 (Kd.R_lt (HO_27.out))) (Kd.R_lt (HO588.out))) (below_size (HB.out))); have n3_ := Aside0.mk (below_step (HB.out) hb); clear HO_27; clear HO588; clear HB; have HO_27 := n0_; have HO588 := n1_; have HO592 := n2_; have HB := n3_; clear n0_ n1_ n2_ n3_; clear hb; clear ho0; obtain ⟨Ao137, co137, eo137⟩ := Kd.R_slice HO588.out; subst eo137) | (go_at_call 8; (with_reducible refine (laws_xSame.calls kj92 _ _ t585 _ _ t565 true _ ?side1 ?side2 ?side3 ?side4 A130.out).mono ?_); (case side1 => exact (Kd.R_reads' HO588.out).2.2); (case side2 => exact (Kd.R_reads' HO588.out).2.1); (case side3 => exact (Kd.R_reads' HO_27.out).2.2); (case side4 => exact (Kd.R_reads' HO_27.out).2.1); rintro e w' ⟨rfl, ⟨nd, rfl⟩⟩; obtain ⟨Ao138, co138, eo138⟩ := Kd.R_slice HO592.out; subst eo138) | (go_at_call 8; (with_reducible refine (laws_xSame.calls kj92 _ _ t589 _ _ t565 true _ ?side1 ?side2 ?side3 ?side4 A133.out).mono ?_); (case side1 => exact (Kd.R_reads' HO592.out).2.2); (case side2 => exact (Kd.R_reads' HO592.out).2.1); (case side3 => exact (Kd.R_reads' HO_27.out).2.2); (case side4 => exact (Kd.R_reads' HO_27.out).2.1); rintro e w' ⟨rfl, ⟨nd, rfl⟩⟩))
      refine Met.intro (hJ_ _ _ ?mg_ ?rel)
      case mg_ => kernel_rfl
      case rel => exact ⟨_, H', ⟨by have := HJ7.out; have := HJ16.out; have := HJ44.out; have := HJ92.out; omega⟩, ⟨by (apply pw_below_drewN; exact HB.out)⟩⟩
     ·replace c134 := Bool.eq_false_iff.mpr c134
      subst c134
      rw [if_neg (show ¬ (false = true) by decide)] at H
      have H1 := H
      clear H
      have H := H1
      clear H1
      obtain rfl := Option.some.inj H
      go_wp2_with (first | ((with_reducible refine gate_callee (f := 13) rfl ?_); refine goesL_ (some 328) rfl rfl Try.func13 (by kernel_rfl) rfl #[.int .i64 t564, .int .i64 (t565.length : Int), .int .i64 t568] rfl (by (try simp only [List.map_toArray, List.map_cons, List.map_nil]); rfl) ?_; (with_reducible refine (impl_ChoiceAt.calls kj92 t564 (t565.length : Int) t568 t585 true _ A127.out).mono ?_); rintro e w139 ⟨v587, rfl, ho0, hb⟩; refine ⟨_, rfl, ?_⟩; have n0_ := Aside0.mk (Kd.R_elder' (HO_27.out) (Kd.R_base ho0) hb); have n1_ := Aside0.mk (Kd.R_lower (Kd.R_new' ho0 (Kd.R_lt (HO_27.out))) (below_size (HB.out))); have n2_ := Aside0.mk (below_step (HB.out) hb); clear HO_27; clear HB; have HO_27 := n0_; have HO588 := n1_; have HB := n2_; clear n0_ n1_ n2_; clear hb; clear ho0) | ((with_reducible refine gate_callee (f := 6) rfl ?_); refine goesL_ (some 334) rfl rfl Try.func6 (by kernel_rfl) rfl #[.int .i64 t564, .int .i64 t572] rfl (by (try simp only [List.map_toArray, List.map_cons, List.map_nil]); rfl) ?_; (with_reducible refine (impl_SetAt.calls kj92 t564 t572 t589 true _ A128.out).mono ?_); rintro e w140 ⟨v591, rfl, ho0, hb⟩; refine ⟨_, rfl, ?_⟩; have n0_ := Aside0.mk (Kd.R_elder' (HO_27.out) (Kd.R_base ho0) hb); have n1_ := Aside0.mk (Kd.R_elder' (HO588.out) (Kd.R_base ho0) hb); have n2_ := Aside0.mk (Kd.R_lower (Kd.R_new' (Kd.R_new' ho0 (Kd.R_lt (HO_27.out))) (Kd.R_lt (HO588.out))) (below_size (HB.out))); have n3_ := Aside0.mk (below_step (HB.out) hb); clear HO_27; clear HO588; clear HB; have HO_27 := n0_; have HO588 := n1_; have HO592 := n2_; have HB := n3_; clear n0_ n1_ n2_ n3_; clear hb; clear ho0; obtain ⟨Ao141, co141, eo141⟩ := Kd.R_slice HO588.out; subst eo141) | (go_at_call 8; (with_reducible refine (laws_xSame.calls kj92 _ _ t585 _ _ t565 true _ ?side1 ?side2 ?side3 ?side4 A130.out).mono ?_); (case side1 => exact (Kd.R_reads' HO588.out).2.2); (case side2 => exact (Kd.R_reads' HO588.out).2.1); (case side3 => exact (Kd.R_reads' HO_27.out).2.2); (case side4 => exact (Kd.R_reads' HO_27.out).2.1); rintro e w' ⟨rfl, ⟨nd, rfl⟩⟩; obtain ⟨Ao142, co142, eo142⟩ := Kd.R_slice HO592.out; subst eo142) | (go_at_call 8; (with_reducible refine (laws_xSame.calls kj92 _ _ t589 _ _ t565 false _ ?side1 ?side2 ?side3 ?side4 A133.out).mono ?_); (case side1 => exact (Kd.R_reads' HO592.out).2.2); (case side2 => exact (Kd.R_reads' HO592.out).2.1); (case side3 => exact (Kd.R_reads' HO_27.out).2.2); (case side4 => exact (Kd.R_reads' HO_27.out).2.1); rintro e w' ⟨rfl, ⟨nd, rfl⟩⟩))
      go_ret
      exact ⟨by rfl, by (apply pw_below_drewN; exact HB.out)⟩
    ·replace c132 := Bool.eq_false_iff.mpr c132
     subst c132
     rw [if_neg (show ¬ (false = true) by decide)] at H
     have H1 := H
     clear H
     have H := H1
     clear H1
     obtain rfl := Option.some.inj H
     go_wp2_with (first | ((with_reducible refine gate_callee (f := 13) rfl ?_); refine goesL_ (some 328) rfl rfl Try.func13 (by kernel_rfl) rfl #[.int .i64 t564, .int .i64 (t565.length : Int), .int .i64 t568] rfl (by (try simp only [List.map_toArray, List.map_cons, List.map_nil]); rfl) ?_; (with_reducible refine (impl_ChoiceAt.calls kj92 t564 (t565.length : Int) t568 t585 true _ A127.out).mono ?_); rintro e w143 ⟨v587, rfl, ho0, hb⟩; refine ⟨_, rfl, ?_⟩; have n0_ := Aside0.mk (Kd.R_elder' (HO_27.out) (Kd.R_base ho0) hb); have n1_ := Aside0.mk (Kd.R_lower (Kd.R_new' ho0 (Kd.R_lt (HO_27.out))) (below_size (HB.out))); have n2_ := Aside0.mk (below_step (HB.out) hb); clear HO_27; clear HB; have HO_27 := n0_; have HO588 := n1_; have HB := n2_; clear n0_ n1_ n2_; clear hb; clear ho0) | ((with_reducible refine gate_callee (f := 6) rfl ?_); refine goesL_ (some 334) rfl rfl Try.func6 (by kernel_rfl) rfl #[.int .i64 t564, .int .i64 t572] rfl (by (try simp only [List.map_toArray, List.map_cons, List.map_nil]); rfl) ?_; (with_reducible refine (impl_SetAt.calls kj92 t564 t572 t589 false _ A128.out).mono ?_); rintro e w144 ⟨v591, rfl, ho0, hb⟩; refine ⟨_, rfl, ?_⟩; have n0_ := Aside0.mk (Kd.R_elder' (HO_27.out) (Kd.R_base ho0) hb); have n1_ := Aside0.mk (Kd.R_elder' (HO588.out) (Kd.R_base ho0) hb); have n2_ := Aside0.mk (Kd.R_lower (Kd.R_new' (Kd.R_new' ho0 (Kd.R_lt (HO_27.out))) (Kd.R_lt (HO588.out))) (below_size (HB.out))); have n3_ := Aside0.mk (below_step (HB.out) hb); clear HO_27; clear HO588; clear HB; have HO_27 := n0_; have HO588 := n1_; have HO592 := n2_; have HB := n3_; clear n0_ n1_ n2_ n3_; clear hb; clear ho0; obtain ⟨Ao145, co145, eo145⟩ := Kd.R_slice HO588.out; subst eo145) | (go_at_call 8; (with_reducible refine (laws_xSame.calls kj92 _ _ t585 _ _ t565 true _ ?side1 ?side2 ?side3 ?side4 A130.out).mono ?_); (case side1 => exact (Kd.R_reads' HO588.out).2.2); (case side2 => exact (Kd.R_reads' HO588.out).2.1); (case side3 => exact (Kd.R_reads' HO_27.out).2.2); (case side4 => exact (Kd.R_reads' HO_27.out).2.1); rintro e w' ⟨rfl, ⟨nd, rfl⟩⟩))
     go_ret
     exact ⟨by rfl, by (apply pw_below_drewN; exact HB.out)⟩
   ·replace c131 := Bool.eq_false_iff.mpr c131
    subst c131
    rw [if_neg (show ¬ (false = true) by decide)] at H
    have H1 := H
    clear H
    have H := H1
    clear H1
    obtain rfl := Option.some.inj H
    go_wp2_with (first | ((with_reducible refine gate_callee (f := 13) rfl ?_); refine goesL_ (some 328) rfl rfl Try.func13 (by kernel_rfl) rfl #[.int .i64 t564, .int .i64 (t565.length : Int), .int .i64 t568] rfl (by (try simp only [List.map_toArray, List.map_cons, List.map_nil]); rfl) ?_; (with_reducible refine (impl_ChoiceAt.calls kj92 t564 (t565.length : Int) t568 t585 true _ A127.out).mono ?_); rintro e w146 ⟨v587, rfl, ho0, hb⟩; refine ⟨_, rfl, ?_⟩; have n0_ := Aside0.mk (Kd.R_elder' (HO_27.out) (Kd.R_base ho0) hb); have n1_ := Aside0.mk (Kd.R_lower (Kd.R_new' ho0 (Kd.R_lt (HO_27.out))) (below_size (HB.out))); have n2_ := Aside0.mk (below_step (HB.out) hb); clear HO_27; clear HB; have HO_27 := n0_; have HO588 := n1_; have HB := n2_; clear n0_ n1_ n2_; clear hb; clear ho0) | ((with_reducible refine gate_callee (f := 6) rfl ?_); refine goesL_ (some 334) rfl rfl Try.func6 (by kernel_rfl) rfl #[.int .i64 t564, .int .i64 t572] rfl (by (try simp only [List.map_toArray, List.map_cons, List.map_nil]); rfl) ?_; (with_reducible refine (impl_SetAt.calls kj92 t564 t572 t589 t590 _ A128.out).mono ?_); rintro e w147 ⟨v591, rfl, ho0, hb⟩; refine ⟨_, rfl, ?_⟩; have n0_ := Aside0.mk (Kd.R_elder' (HO_27.out) (Kd.R_base ho0) hb); have n1_ := Aside0.mk (Kd.R_elder' (HO588.out) (Kd.R_base ho0) hb); have n2_ := Aside0.mk (Kd.R_lower (Kd.R_new' (Kd.R_new' ho0 (Kd.R_lt (HO_27.out))) (Kd.R_lt (HO588.out))) (below_size (HB.out))); have n3_ := Aside0.mk (below_step (HB.out) hb); clear HO_27; clear HO588; clear HB; have HO_27 := n0_; have HO588 := n1_; have HO592 := n2_; have HB := n3_; clear n0_ n1_ n2_ n3_; clear hb; clear ho0; obtain ⟨Ao148, co148, eo148⟩ := Kd.R_slice HO588.out; subst eo148) | (go_at_call 8; (with_reducible refine (laws_xSame.calls kj92 _ _ t585 _ _ t565 false _ ?side1 ?side2 ?side3 ?side4 A130.out).mono ?_); (case side1 => exact (Kd.R_reads' HO588.out).2.2); (case side2 => exact (Kd.R_reads' HO588.out).2.1); (case side3 => exact (Kd.R_reads' HO_27.out).2.2); (case side4 => exact (Kd.R_reads' HO_27.out).2.1); rintro e w' ⟨rfl, ⟨nd, rfl⟩⟩))
    go_ret
    exact ⟨by rfl, by (apply pw_below_drewN; exact HB.out)⟩
  ·replace c129 := Bool.eq_false_iff.mpr c129
   subst c129
   rw [if_neg (show ¬ (false = true) by decide)] at H
   have H1 := H
   clear H
   have H := H1
   clear H1
   obtain rfl := Option.some.inj H
   go_wp2_with (first | ((with_reducible refine gate_callee (f := 13) rfl ?_); refine goesL_ (some 328) rfl rfl Try.func13 (by kernel_rfl) rfl #[.int .i64 t564, .int .i64 (t565.length : Int), .int .i64 t568] rfl (by (try simp only [List.map_toArray, List.map_cons, List.map_nil]); rfl) ?_; (with_reducible refine (impl_ChoiceAt.calls kj92 t564 (t565.length : Int) t568 t585 false _ A127.out).mono ?_); rintro e w149 ⟨v587, rfl, ho0, hb⟩; refine ⟨_, rfl, ?_⟩; have n0_ := Aside0.mk (Kd.R_elder' (HO_27.out) (Kd.R_base ho0) hb); have n1_ := Aside0.mk (Kd.R_lower (Kd.R_new' ho0 (Kd.R_lt (HO_27.out))) (below_size (HB.out))); have n2_ := Aside0.mk (below_step (HB.out) hb); clear HO_27; clear HB; have HO_27 := n0_; have HO588 := n1_; have HB := n2_; clear n0_ n1_ n2_; clear hb; clear ho0) | ((with_reducible refine gate_callee (f := 6) rfl ?_); refine goesL_ (some 334) rfl rfl Try.func6 (by kernel_rfl) rfl #[.int .i64 t564, .int .i64 t572] rfl (by (try simp only [List.map_toArray, List.map_cons, List.map_nil]); rfl) ?_; (with_reducible refine (impl_SetAt.calls kj92 t564 t572 t589 t590 _ A128.out).mono ?_); rintro e w150 ⟨v591, rfl, ho0, hb⟩; refine ⟨_, rfl, ?_⟩; have n0_ := Aside0.mk (Kd.R_elder' (HO_27.out) (Kd.R_base ho0) hb); have n1_ := Aside0.mk (Kd.R_elder' (HO588.out) (Kd.R_base ho0) hb); have n2_ := Aside0.mk (Kd.R_lower (Kd.R_new' (Kd.R_new' ho0 (Kd.R_lt (HO_27.out))) (Kd.R_lt (HO588.out))) (below_size (HB.out))); have n3_ := Aside0.mk (below_step (HB.out) hb); clear HO_27; clear HO588; clear HB; have HO_27 := n0_; have HO588 := n1_; have HO592 := n2_; have HB := n3_; clear n0_ n1_ n2_ n3_; clear hb; clear ho0))
   go_ret
   exact ⟨by rfl, HB.out⟩
 ·replace c126 := Bool.eq_false_iff.mpr c126
  subst c126
  rw [if_neg (show ¬ (false = true) by decide)] at H
  have H1 := H
  clear H
  have H := H1
  clear H1
  have H' := Aside0.mk H
  clear H
  go_wp2
  refine Met.intro (hJ_ _ _ ?mg_ ?rel)
  case mg_ => kernel_rfl
  case rel => exact ⟨_, H', ⟨by have := HJ7.out; have := HJ16.out; have := HJ44.out; have := HJ92.out; omega⟩, ⟨HB.out⟩⟩
def laws_FnOrdersChange.c10 : PSigma fun P0_ : Prop => PSigma fun P1_ : Prop => Hole P0_ → Hole P1_ → laws_FnOrdersChange.c8.2.1 := by
 refine' ⟨_, _, fun HP0_ HP1_ => _⟩
 rotate_left 2
 intro k A0 c0 l0 A1 c1 l1 r w HR0 HC0 HR1 HC1 A3 t530 t531 A5 t532 t533 A6 t536 t537 A7 _ _ _ w9 w10 v534 w11 v538 HO535 HO539 _ _ _ HO_7 _ kj7 HJ7 _ _ kj16 HJ16 t549 t550 t551 A35 t552 t553 A36 t556 t557 A37 t560 t561 A38 t562 t563 A39 t564 t565 A40 t568 t569 A41 t570 t571 A42 t572 t573 A43 t574 t575 A44 w46 w47 v554 w48 v558 _ _ w49 Ao50 co50 _ w51 HO555 HO559 HO567 _ _ nd _ _ HO_18 _ _ kj44 HJ44 _ _ HO_27 HB kj92 HJ92 HC125 _ _ f_ wc hcut
 clear HC125
 try clear c1
 try clear c2
 try clear p2
 try clear c3
 try clear c4
 try clear c5
 try clear c6
 try clear p6
 try clear c7
 try clear c9
 try clear c10
 try clear c12
 try clear c12b0
 try clear c12b1
 try clear c12b2
 try clear c13
 try clear c14
 try clear c15
 try clear c16
 try clear c17
 try clear c18
 try clear c19
 try clear c20
 try clear c22
 try clear c23
 try clear c23b0
 try clear c23b1
 try clear c25
 try clear c27
 try clear c29
 try clear c29b0
 try clear c29b1
 try clear c52
 try clear c52b0
 try clear c52b1
 try clear c52b2
 try clear c54
 try clear c55
 try clear c55b0
 try clear c55b1
 try clear c55b2
 try clear c58
 try clear c58b0
 try clear c58b1
 try clear c59
 try clear c59b0
 try clear c59b1
 try clear c59b2
 try clear c62
 try clear c62b0
 try clear c62b1
 try clear c63
 try clear c63b0
 try clear c63b1
 try clear c63b2
 try clear p64
 try clear c66
 try clear c66b0
 try clear c66b1
 try clear c67
 try clear c68
 try clear c68b0
 try clear c69
 try clear c69b0
 try clear c69b1
 try clear c69b2
 try clear c74
 try clear c74b0
 try clear c74b1
 try clear c74b2
 try clear c79
 try clear c79b0
 try clear c79b1
 try clear c79b2
 try clear c92
 try clear c94
 try clear c96
 try clear c96b0
 try clear c96b1
 try clear c98
 try clear c99
 try clear c99b0
 try clear c99b1
 try clear c100
 try clear c100b0
 try clear c100b1
 try clear c102
 try clear c103
 try clear c104
 try clear c104b0
 try clear c106
 try clear c106b0
 try clear c106b1
 try clear c126
 try clear c129
 try clear c131
 try clear c132
 try clear c134
 try clear p2
 try clear p6
 try clear p64
 obtain ⟨kq, HA, HJ124, HB⟩ := hcut
 cases kq with
 | zero => exact absurd HA.out (by simp [laws_FnOrdersChange.j5])
 | succ kj124 =>
  have H := HA.out
  clear HA
  simp only [laws_FnOrdersChange.j5] at H
  replace H := Option.bind_eq_some_iff.mp H
  obtain ⟨⟨t595, t596⟩, A1510, H⟩ := H
  try dsimp +instances only at H
  replace H := H
  have A151 := Aside0.mk A1510
  clear A1510
  replace H := Option.bind_eq_some_iff.mp H
  obtain ⟨⟨t597, t598⟩, A1520, H⟩ := H
  try dsimp +instances only at H
  replace H := H
  have A152 := Aside0.mk A1520
  clear A1520
  replace H := Option.bind_eq_some_iff.mp H
  obtain ⟨⟨t601, t602⟩, A1530, H⟩ := H
  try dsimp +instances only at H
  replace H := H
  have A153 := Aside0.mk A1530
  clear A1530
  replace H := Option.bind_eq_some_iff.mp H
  obtain ⟨⟨t605, t606⟩, A1540, H⟩ := H
  try dsimp +instances only at H
  replace H := H
  have A154 := Aside0.mk A1540
  clear A1540
  replace H := Option.bind_eq_some_iff.mp H
  obtain ⟨⟨t607, t608⟩, A1550, H⟩ := H
  try dsimp +instances only at H
  replace H := H
  have A155 := Aside0.mk A1550
  clear A1550
  replace H := Option.bind_eq_some_iff.mp H
  obtain ⟨t609, A1560, H⟩ := H
  try dsimp +instances only at H
  replace H := H
  have A156 := Aside0.mk A1560
  clear A1560
  replace H := Option.bind_eq_some_iff.mp H
  obtain ⟨⟨t612, t613⟩, A1570, H⟩ := H
  try dsimp +instances only at H
  replace H := H
  have A157 := Aside0.mk A1570
  clear A1570
  replace H := Option.bind_eq_some_iff.mp H
  obtain ⟨⟨t614, t615⟩, A1580, H⟩ := H
  try dsimp +instances only at H
  replace H := H
  have A158 := Aside0.mk A1580
  clear A1580
  replace H := Option.bind_eq_some_iff.mp H
  obtain ⟨⟨t616, t617⟩, A1590, H⟩ := H
  try dsimp +instances only at H
  replace H := H
  have A159 := Aside0.mk A1590
  clear A1590
  replace H := Option.bind_eq_some_iff.mp H
  obtain ⟨⟨t620, t621⟩, A1600, H⟩ := H
  try dsimp +instances only at H
  replace H := H
  have A160 := Aside0.mk A1600
  clear A1600
  replace H := Option.bind_eq_some_iff.mp H
  obtain ⟨⟨t624, t625⟩, A1610, H⟩ := H
  try dsimp +instances only at H
  replace H := H
  have A161 := Aside0.mk A1610
  clear A1610
  replace H := Option.bind_eq_some_iff.mp H
  obtain ⟨⟨t628, t629⟩, A1620, H⟩ := H
  try dsimp +instances only at H
  replace H := H
  have A162 := Aside0.mk A1620
  clear A1620
  replace H := Option.bind_eq_some_iff.mp H
  obtain ⟨⟨t634, t635⟩, A1630, H⟩ := H
  try dsimp +instances only at H
  replace H := H
  have A163 := Aside0.mk A1630
  clear A1630
  replace H := Option.bind_eq_some_iff.mp H
  obtain ⟨⟨t636, t637⟩, A1640, H⟩ := H
  try dsimp +instances only at H
  replace H := H
  have A164 := Aside0.mk A1640
  clear A1640
  have HC165 := Aside0.mk H
  clear H
  go_upto_region 51 with (first | ((with_reducible refine gate_callee (f := 21) rfl ?_); refine goesL_ (some 357) rfl rfl Try.func21 (by kernel_rfl) rfl #[.slice A1 l1.length c1] rfl (by (try simp only [List.map_toArray, List.map_cons, List.map_nil]); rfl) ?_; (with_reducible refine (spec_DrawSwappedAt.calls kj124 _ _ l1 t595 t596 _ ?side1 ?side2 A151.out).mono ?_); (case side1 => repeat (first | exact (Kd.C_below HR1.out HB.out) | (with_reducible refine Kd.C_alloc ?_ _) | (with_reducible refine Kd.C_drewN ?_ _) | (with_reducible refine Kd.C_drew ?_))); (case side2 => exact HC1.out); rintro e w166 ⟨rfl, hb⟩; refine ⟨_, rfl, ?_⟩; have n0_ := Aside0.mk (below_step (HB.out) hb); clear HB; have HB := n0_; clear n0_; clear hb; (try clear hi)) | ((with_reducible refine gate_callee (f := 22) rfl ?_); refine goesL_ (some 363) rfl rfl Try.func22 (by kernel_rfl) rfl #[.int .i64 t595, .int .i64 t596] rfl (by (try simp only [List.map_toArray, List.map_cons, List.map_nil]); rfl) ?_; (with_reducible refine (impl_SwappedAt.calls kj124 t595 t596 t597 t598 _ A152.out).mono ?_); rintro e w167 ⟨v599, rfl, ho0, hb⟩; refine ⟨_, rfl, ?_⟩; have n0_ := Aside0.mk (Kd.R_lower ho0 (below_size (HB.out))); have n1_ := Aside0.mk (below_step (HB.out) hb); clear HB; have HO600 := n0_; have HB := n1_; clear n0_ n1_; clear hb; clear ho0) | ((with_reducible refine gate_callee (f := 23) rfl ?_); refine goesL_ (some 369) rfl rfl Try.func23 (by kernel_rfl) rfl #[.int .i64 t595, .int .i64 t596] rfl (by (try simp only [List.map_toArray, List.map_cons, List.map_nil]); rfl) ?_; (with_reducible refine (spec_SwappedAt.calls kj124 t595 t596 t601 t602 _ A153.out).mono ?_); rintro e w168 ⟨v603, rfl, ho0, hb⟩; refine ⟨_, rfl, ?_⟩; have n0_ := Aside0.mk (Kd.R_elder' (HO600.out) (Kd.R_base ho0) hb); have n1_ := Aside0.mk (Kd.R_lower (Kd.R_new' ho0 (Kd.R_lt (HO600.out))) (below_size (HB.out))); have n2_ := Aside0.mk (below_step (HB.out) hb); clear HO600; clear HB; have HO600 := n0_; have HO604 := n1_; have HB := n2_; clear n0_ n1_ n2_; clear hb; clear ho0) | ((with_reducible refine gate_callee (f := 24) rfl ?_); refine goesL_ (some 375) rfl rfl Try.func24 (by kernel_rfl) rfl #[.int .i64 t595, .int .i64 t596] rfl (by (try simp only [List.map_toArray, List.map_cons, List.map_nil]); rfl) ?_; (with_reducible refine (impl_SwapPlace.calls kj124 t595 t596 t605 t606 _ A154.out).mono ?_); rintro e w169 ⟨rfl, hb⟩; refine ⟨_, rfl, ?_⟩; have n0_ := Aside0.mk (Kd.R_below (HO600.out) hb); have n1_ := Aside0.mk (Kd.R_below (HO604.out) hb); have n2_ := Aside0.mk (below_step (HB.out) hb); clear HO600; clear HO604; clear HB; have HO600 := n0_; have HO604 := n1_; have HB := n2_; clear n0_ n1_ n2_; clear hb; (try clear hi)) | ((with_reducible refine gate_callee (f := 25) rfl ?_); refine goesL_ (some 381) rfl rfl Try.func25 (by kernel_rfl) rfl #[.int .i64 t595, .int .i64 t596] rfl (by (try simp only [List.map_toArray, List.map_cons, List.map_nil]); rfl) ?_; (with_reducible refine (spec_SwapPlace.calls kj124 t595 t596 t607 t608 _ A155.out).mono ?_); rintro e w170 ⟨rfl, hb⟩; refine ⟨_, rfl, ?_⟩; have n0_ := Aside0.mk (Kd.R_below (HO600.out) hb); have n1_ := Aside0.mk (Kd.R_below (HO604.out) hb); have n2_ := Aside0.mk (below_step (HB.out) hb); clear HO600; clear HO604; clear HB; have HO600 := n0_; have HO604 := n1_; have HB := n2_; clear n0_ n1_ n2_; clear hb; (try clear hi)) | ((with_reducible refine gate_callee (f := 26) rfl ?_); refine goesL_ (some 385) rfl rfl Try.func26 (by kernel_rfl) rfl #[.slice A1 l1.length c1] rfl (by (try simp only [List.map_toArray, List.map_cons, List.map_nil]); rfl) ?_; (with_reducible refine (spec_DrawRankOfSwapped.calls kj124 _ _ l1 t609 _ ?side1 ?side2 A156.out).mono ?_); (case side1 => repeat (first | exact (Kd.C_below HR1.out HB.out) | (with_reducible refine Kd.C_alloc ?_ _) | (with_reducible refine Kd.C_drewN ?_ _) | (with_reducible refine Kd.C_drew ?_))); (case side2 => exact HC1.out); rintro e w171 ⟨v610, rfl, ho0, hb⟩; refine ⟨_, rfl, ?_⟩; have n0_ := Aside0.mk (Kd.R_elder' (HO600.out) (Kd.R_base ho0) hb); have n1_ := Aside0.mk (Kd.R_elder' (HO604.out) (Kd.R_base ho0) hb); have n2_ := Aside0.mk (Kd.R_lower (Kd.R_new' (Kd.R_new' ho0 (Kd.R_lt (HO600.out))) (Kd.R_lt (HO604.out))) (below_size (HB.out))); have n3_ := Aside0.mk (below_step (HB.out) hb); clear HO600; clear HO604; clear HB; have HO600 := n0_; have HO604 := n1_; have HO611 := n2_; have HB := n3_; clear n0_ n1_ n2_ n3_; clear hb; clear ho0; obtain ⟨Ao172, co172, eo172⟩ := Kd.R_slice HO611.out; subst eo172) | ((with_reducible refine gate_callee (f := 27) rfl ?_); refine goesL_ (some 388) rfl rfl Try.func27 (by kernel_rfl) rfl #[.slice Ao172 t609.length co172] rfl (by (try simp only [List.map_toArray, List.map_cons, List.map_nil]); rfl) ?_; (with_reducible refine (impl_RankOfSwapped.calls kj124 _ _ t609 t612 t613 _ ?side1 ?side2 A157.out).mono ?_); (case side1 => exact (Kd.R_reads' HO611.out).2.2); (case side2 => exact (Kd.R_reads' HO611.out).2.1); rintro e w173 ⟨rfl, hb⟩; refine ⟨_, rfl, ?_⟩; have n0_ := Aside0.mk (Kd.R_below (HO600.out) hb); have n1_ := Aside0.mk (Kd.R_below (HO604.out) hb); have n2_ := Aside0.mk (Kd.R_below (HO611.out) hb); have n3_ := Aside0.mk (below_step (HB.out) hb); clear HO600; clear HO604; clear HO611; clear HB; have HO600 := n0_; have HO604 := n1_; have HO611 := n2_; have HB := n3_; clear n0_ n1_ n2_ n3_; clear hb; (try clear hi)) | ((with_reducible refine gate_callee (f := 28) rfl ?_); refine goesL_ (some 393) rfl rfl Try.func28 (by kernel_rfl) rfl #[.slice Ao172 t609.length co172] rfl (by (try simp only [List.map_toArray, List.map_cons, List.map_nil]); rfl) ?_; (with_reducible refine (spec_RankOfSwapped.calls kj124 _ _ t609 t614 t615 _ ?side1 ?side2 A158.out).mono ?_); (case side1 => exact (Kd.R_reads' HO611.out).2.2); (case side2 => exact (Kd.R_reads' HO611.out).2.1); rintro e w' ⟨rfl, ⟨nd, rfl⟩⟩; refine ⟨_, rfl, ?_⟩) | ((with_reducible refine gate_callee (f := 29) rfl ?_); refine goesL_ (some 398) rfl rfl Try.func29 (by kernel_rfl) rfl #[.slice A1 l1.length c1] rfl (by (try simp only [List.map_toArray, List.map_cons, List.map_nil]); rfl) ?_; (with_reducible refine (spec_DrawMixedAt.calls kj124 _ _ l1 t616 t617 _ ?side1 ?side2 A159.out).mono ?_); (case side1 => repeat (first | exact (Kd.C_below HR1.out (by (apply pw_below_drewN; exact HB.out))) | (with_reducible refine Kd.C_alloc ?_ _) | (with_reducible refine Kd.C_drewN ?_ _) | (with_reducible refine Kd.C_drew ?_))); (case side2 => exact HC1.out); rintro e w174 ⟨v618, rfl, ho0, hb⟩; refine ⟨_, rfl, ?_⟩; have n0_ := Aside0.mk (Kd.R_elder' (by apply Kd.R_drewN; exact HO600.out) (Kd.R_base ho0) hb); have n1_ := Aside0.mk (Kd.R_elder' (by apply Kd.R_drewN; exact HO604.out) (Kd.R_base ho0) hb); have n2_ := Aside0.mk (Kd.R_elder' (by apply Kd.R_drewN; exact HO611.out) (Kd.R_base ho0) hb); have n3_ := Aside0.mk (Kd.R_lower (Kd.R_new' (Kd.R_new' (Kd.R_new' ho0 (Kd.R_lt (by apply Kd.R_drewN; exact HO600.out))) (Kd.R_lt (by apply Kd.R_drewN; exact HO604.out))) (Kd.R_lt (by apply Kd.R_drewN; exact HO611.out))) (below_size (by (apply pw_below_drewN; exact HB.out)))); have n4_ := Aside0.mk (below_step (by (apply pw_below_drewN; exact HB.out)) hb); clear HO600; clear HO604; clear HO611; clear HB; have HO600 := n0_; have HO604 := n1_; have HO611 := n2_; have HO619 := n3_; have HB := n4_; clear n0_ n1_ n2_ n3_ n4_; clear hb; clear ho0; obtain ⟨Ao175, co175, eo175⟩ := Kd.R_slice HO619.out; subst eo175) | ((with_reducible refine gate_callee (f := 30) rfl ?_); refine goesL_ (some 404) rfl rfl Try.func30 (by kernel_rfl) rfl #[.slice Ao175 t616.length co175, .int .i64 t617] rfl (by (try simp only [List.map_toArray, List.map_cons, List.map_nil]); rfl) ?_; (with_reducible refine (impl_MixedAt.calls kj124 _ _ t616 t617 t620 t621 _ ?side1 ?side2 A160.out).mono ?_); (case side1 => exact (Kd.R_reads' HO619.out).2.2); (case side2 => exact (Kd.R_reads' HO619.out).2.1); rintro e w176 ⟨v622, rfl, ho0, hb⟩; refine ⟨_, rfl, ?_⟩; have n0_ := Aside0.mk (Kd.R_elder' (HO600.out) (Kd.R_base ho0) hb); have n1_ := Aside0.mk (Kd.R_elder' (HO604.out) (Kd.R_base ho0) hb); have n2_ := Aside0.mk (Kd.R_elder' (HO611.out) (Kd.R_base ho0) hb); have n3_ := Aside0.mk (Kd.R_elder' (HO619.out) (Kd.R_base ho0) hb); have n4_ := Aside0.mk (Kd.R_lower (Kd.R_new' (Kd.R_new' (Kd.R_new' (Kd.R_new' ho0 (Kd.R_lt (HO600.out))) (Kd.R_lt (HO604.out))) (Kd.R_lt (HO611.out))) (Kd.R_lt (HO619.out))) (below_size (HB.out))); have n5_ := Aside0.mk (below_step (HB.out) hb); clear HO600; clear HO604; clear HO611; clear HO619; clear HB; have HO600 := n0_; have HO604 := n1_; have HO611 := n2_; have HO619 := n3_; have HO623 := n4_; have HB := n5_; clear n0_ n1_ n2_ n3_ n4_ n5_; clear hb; clear ho0) | ((with_reducible refine gate_callee (f := 31) rfl ?_); refine goesL_ (some 410) rfl rfl Try.func31 (by kernel_rfl) rfl #[.slice Ao175 t616.length co175, .int .i64 t617] rfl (by (try simp only [List.map_toArray, List.map_cons, List.map_nil]); rfl) ?_; (with_reducible refine (spec_MixedAt.calls kj124 _ _ t616 t617 t624 t625 _ ?side1 ?side2 A161.out).mono ?_); (case side1 => exact (Kd.R_reads' HO619.out).2.2); (case side2 => exact (Kd.R_reads' HO619.out).2.1); rintro e w177 ⟨v626, rfl, ho0, hb⟩; refine ⟨_, rfl, ?_⟩; have n0_ := Aside0.mk (Kd.R_elder' (HO600.out) (Kd.R_base ho0) hb); have n1_ := Aside0.mk (Kd.R_elder' (HO604.out) (Kd.R_base ho0) hb); have n2_ := Aside0.mk (Kd.R_elder' (HO611.out) (Kd.R_base ho0) hb); have n3_ := Aside0.mk (Kd.R_elder' (HO619.out) (Kd.R_base ho0) hb); have n4_ := Aside0.mk (Kd.R_elder' (HO623.out) (Kd.R_base ho0) hb); have n5_ := Aside0.mk (Kd.R_lower (Kd.R_new' (Kd.R_new' (Kd.R_new' (Kd.R_new' (Kd.R_new' ho0 (Kd.R_lt (HO600.out))) (Kd.R_lt (HO604.out))) (Kd.R_lt (HO611.out))) (Kd.R_lt (HO619.out))) (Kd.R_lt (HO623.out))) (below_size (HB.out))); have n6_ := Aside0.mk (below_step (HB.out) hb); clear HO600; clear HO604; clear HO611; clear HO619; clear HO623; clear HB; have HO600 := n0_; have HO604 := n1_; have HO611 := n2_; have HO619 := n3_; have HO623 := n4_; have HO627 := n5_; have HB := n6_; clear n0_ n1_ n2_ n3_ n4_ n5_ n6_; clear hb; clear ho0) | ((with_reducible refine gate_callee (f := 32) rfl ?_); refine goesL_ (some 415) rfl rfl Try.func32 (by kernel_rfl) rfl #[.slice A1 l1.length c1] rfl (by (try simp only [List.map_toArray, List.map_cons, List.map_nil]); rfl) ?_; (with_reducible refine (spec_DrawRankOfMixed.calls kj124 _ _ l1 t628 t629 _ ?side1 ?side2 A162.out).mono ?_); (case side1 => repeat (first | exact (Kd.C_below HR1.out HB.out) | (with_reducible refine Kd.C_alloc ?_ _) | (with_reducible refine Kd.C_drewN ?_ _) | (with_reducible refine Kd.C_drew ?_))); (case side2 => exact HC1.out); rintro e w178 ⟨v630, v632, rfl, ho0, ho1, hb⟩; refine ⟨_, rfl, ?_⟩; have n0_ := Aside0.mk (Kd.R_mono (Kd.R_told (Kd.R_told (Kd.R_old (HO600.out) hb) (Kd.R_base ho0)) (Kd.R_base ho1)) (fun _ h_ => h_.1)); have n1_ := Aside0.mk (Kd.R_mono (Kd.R_told (Kd.R_told (Kd.R_old (HO604.out) hb) (Kd.R_base ho0)) (Kd.R_base ho1)) (fun _ h_ => h_.1)); have n2_ := Aside0.mk (Kd.R_mono (Kd.R_told (Kd.R_told (Kd.R_old (HO611.out) hb) (Kd.R_base ho0)) (Kd.R_base ho1)) (fun _ h_ => h_.1)); have n3_ := Aside0.mk (Kd.R_mono (Kd.R_told (Kd.R_told (Kd.R_old (HO619.out) hb) (Kd.R_base ho0)) (Kd.R_base ho1)) (fun _ h_ => h_.1)); have n4_ := Aside0.mk (Kd.R_mono (Kd.R_told (Kd.R_told (Kd.R_old (HO623.out) hb) (Kd.R_base ho0)) (Kd.R_base ho1)) (fun _ h_ => h_.1)); have n5_ := Aside0.mk (Kd.R_mono (Kd.R_told (Kd.R_told (Kd.R_old (HO627.out) hb) (Kd.R_base ho0)) (Kd.R_base ho1)) (fun _ h_ => h_.1)); have n6_ := Aside0.mk (Kd.R_lower (Kd.R_new' (Kd.R_new' (Kd.R_new' (Kd.R_new' (Kd.R_new' (Kd.R_new' ho0 (Kd.R_lt (HO600.out))) (Kd.R_lt (HO604.out))) (Kd.R_lt (HO611.out))) (Kd.R_lt (HO619.out))) (Kd.R_lt (HO623.out))) (Kd.R_lt (HO627.out))) (below_size (HB.out))); have n7_ := Aside0.mk (Kd.R_lower (Kd.R_new' (Kd.R_new' (Kd.R_new' (Kd.R_new' (Kd.R_new' (Kd.R_new' ho1 (Kd.R_lt (HO600.out))) (Kd.R_lt (HO604.out))) (Kd.R_lt (HO611.out))) (Kd.R_lt (HO619.out))) (Kd.R_lt (HO623.out))) (Kd.R_lt (HO627.out))) (below_size (HB.out))); have n8_ := Aside0.mk (below_step (HB.out) hb); clear HO600; clear HO604; clear HO611; clear HO619; clear HO623; clear HO627; clear HB; have HO600 := n0_; have HO604 := n1_; have HO611 := n2_; have HO619 := n3_; have HO623 := n4_; have HO627 := n5_; have HO631 := n6_; have HO633 := n7_; have HB := n8_; clear n0_ n1_ n2_ n3_ n4_ n5_ n6_ n7_ n8_; clear hb; clear ho0; clear ho1; obtain ⟨Ao179, co179, eo179⟩ := Kd.R_slice HO631.out; subst eo179; obtain ⟨Ao180, co180, eo180⟩ := Kd.R_slice HO633.out; subst eo180) | ((with_reducible refine gate_callee (f := 33) rfl ?_); refine goesL_ (some 421) rfl rfl Try.func33 (by kernel_rfl) rfl #[.slice Ao179 t628.length co179, .slice Ao180 t629.length co180] rfl (by (try simp only [List.map_toArray, List.map_cons, List.map_nil]); rfl) ?_; (with_reducible refine (impl_RankOfMixed.calls kj124 _ _ t628 _ _ t629 t634 t635 _ ?side1 ?side2 ?side3 ?side4 A163.out).mono ?_); (case side1 => exact (Kd.R_reads' HO631.out).2.2); (case side2 => exact (Kd.R_reads' HO631.out).2.1); (case side3 => exact (Kd.R_reads' HO633.out).2.2); (case side4 => exact (Kd.R_reads' HO633.out).2.1); rintro e w' ⟨rfl, ⟨nd, rfl⟩⟩; refine ⟨_, rfl, ?_⟩) | ((with_reducible refine gate_callee (f := 34) rfl ?_); refine goesL_ (some 427) rfl rfl Try.func34 (by kernel_rfl) rfl #[.slice Ao179 t628.length co179, .slice Ao180 t629.length co180] rfl (by (try simp only [List.map_toArray, List.map_cons, List.map_nil]); rfl) ?_; (with_reducible refine (spec_RankOfMixed.calls kj124 _ _ t628 _ _ t629 t636 t637 _ ?side1 ?side2 ?side3 ?side4 A164.out).mono ?_); (case side1 => exact (Kd.R_reads' HO631.out).2.2); (case side2 => exact (Kd.R_reads' HO631.out).2.1); (case side3 => exact (Kd.R_reads' HO633.out).2.2); (case side4 => exact (Kd.R_reads' HO633.out).2.1); rintro e w' ⟨rfl, ⟨nd, rfl⟩⟩; refine ⟨_, rfl, ?_⟩))
  (try simp only [Act.put, List.setIfInBounds_toArray, List.set_cons_zero, List.set_cons_succ])
  refine wp_cutF [o_,o_,o_,o_,o_,o_,o_,o_,o_,o_,o_,o_,o_,o_,o_,o_,o_,o_,o_,o_,o_,o_,o_,o_,o_,o_,o_,o_,o_,o_,o_,o_,o_,o_,o_,o_,o_,o_,o_,o_,o_,o_,o_,o_,o_,o_,o_,o_,o_,o_,o_,o_,o_,o_,o_,o_,o_,o_,o_,o_,o_,o_,o_,o_,o_,o_,o_,o_,o_,o_,o_,o_,o_,o_,o_,o_,o_,o_,o_,o_,o_,o_,o_,i_,i_,i_,i_,i_,i_,i_,i_,i_,i_,i_,i_,i_,i_,i_,i_,i_,i_,i_,i_,i_,i_,i_,i_,i_,i_,i_,i_,i_,i_,i_,i_,i_,i_,i_,i_,i_,i_,i_,i_,i_,i_,i_,i_,i_,i_,i_,i_,i_,i_,i_,i_,i_,i_,i_,i_,i_,i_,i_,i_,i_,i_,i_,i_,i_,i_,i_,i_,i_,i_,i_,i_,i_,i_,i_,i_,i_,i_,i_,i_,i_,i_,i_,i_,i_,i_,i_,i_,i_,i_,i_,i_,i_,i_,i_,i_,i_,i_,i_,i_,i_,i_,i_,i_,i_,i_,i_,i_,i_,i_,i_,i_,i_,i_,i_,i_,i_,i_,i_,i_,i_,i_,i_,i_,i_,i_,i_,i_,i_,i_,i_,i_,i_,i_,i_,i_,i_,i_,i_,i_,i_,i_,i_,i_,i_,i_,i_,i_,i_,i_,i_,i_,i_,i_,i_,i_,i_,i_,i_,i_,i_,i_,i_,i_,i_,i_,i_,i_,i_,i_,i_,i_,i_,i_,i_,i_,i_,i_,i_,i_,i_,i_,i_,i_,i_,i_,i_,i_,i_,i_,i_,i_,i_,i_,i_,i_,i_,i_,i_,i_,i_,i_,i_,i_,i_,i_,i_,i_,i_,i_,i_,i_,i_,i_,i_,i_,i_,i_,i_,i_,i_,i_,i_,i_,i_,i_,i_,i_,i_,i_,i_,i_,i_,i_,i_,i_,i_,i_,i_,i_,i_,i_,i_,i_,i_,i_,i_,i_,i_,i_,i_,i_,i_,i_,i_,i_,i_,i_,i_,i_,i_,i_,i_,i_,i_,i_,i_,i_,i_,i_,i_,i_,i_,i_,i_,i_,i_,i_,i_,i_,i_,i_,i_,i_,i_,i_,i_,i_,i_,i_,i_,i_,i_,i_,i_,i_,i_,i_,i_,i_,i_,i_,i_,i_,i_,i_,i_,i_,i_,i_,i_,i_,i_,i_,i_,i_,i_,i_,i_,i_,i_,i_,i_,i_,i_,i_,i_,i_,i_,i_,i_,i_,i_,i_,i_,i_,i_,i_,i_,i_,i_,i_,i_,i_,i_,i_,i_,i_,i_,i_,i_,i_,i_,i_,i_,i_,i_,i_,i_,i_,i_,i_,i_,i_,i_,i_,i_,i_,i_,i_,i_,i_,i_,i_,i_,i_,i_,i_,i_,i_,i_,i_,i_,i_,i_,i_,i_,i_,i_,i_,i_,i_,i_,i_,i_,i_,i_,i_,i_,i_,i_,i_,i_,i_,i_,i_,i_,i_,i_,i_,i_,i_,i_,i_,i_,i_,i_,i_,i_,i_,i_,i_,i_,i_,i_,i_,i_,i_,i_,i_,i_,i_,i_,i_,i_,i_,i_,i_,i_,i_,i_,i_,i_,i_,i_,i_,i_,i_,i_,i_,i_,i_,i_,i_,i_,i_,i_,i_,i_,i_,i_,i_,i_,i_,i_,i_,i_,i_,i_,i_,i_,i_,i_,i_,i_,i_,i_,i_,i_,i_,i_,i_,i_,i_,i_,i_,i_,i_,i_,i_,i_,i_,i_,i_,i_,i_,i_,i_,i_,i_,i_,i_,i_,i_,i_,i_,i_,i_,i_,i_,i_,i_,i_,i_,i_,i_,i_,i_,i_,i_,i_,i_] (fun f_ wc => ∃ (kq : Nat) (x486_164 : Bool), (f_ 486) = .bool x486_164 ∧ Aside0 (laws_FnOrdersChange.j6 kq t595 t596 t597 t598 t605 t606 t609 t612 t613 t616 t617 t620 t621 t628 t629 t634 t635 x486_164 = some r) ∧ Aside0 (kq ≤ kj124) ∧ Aside0 (Kd.R (Kd.int .i64) 3 wc w.heap.size (fun k_ => some k_ ≠ ((.slice Ao172 t609.length co172) : Value).ownBlock ∧ some k_ ≠ ((.slice Ao175 t616.length co175) : Value).ownBlock ∧ some k_ ≠ (v622 : Value).ownBlock ∧ some k_ ≠ ((.slice Ao179 t628.length co179) : Value).ownBlock ∧ some k_ ≠ ((.slice Ao180 t629.length co180) : Value).ownBlock) v599 t597) ∧ Aside0 (Kd.R (Kd.int .i64) 3 wc w.heap.size (fun k_ => some k_ ≠ (v599 : Value).ownBlock ∧ some k_ ≠ ((.slice Ao175 t616.length co175) : Value).ownBlock ∧ some k_ ≠ (v622 : Value).ownBlock ∧ some k_ ≠ ((.slice Ao179 t628.length co179) : Value).ownBlock ∧ some k_ ≠ ((.slice Ao180 t629.length co180) : Value).ownBlock) (.slice Ao172 t609.length co172) t609) ∧ Aside0 (Kd.R (Kd.int .i64) 3 wc w.heap.size (fun k_ => some k_ ≠ (v599 : Value).ownBlock ∧ some k_ ≠ ((.slice Ao172 t609.length co172) : Value).ownBlock ∧ some k_ ≠ (v622 : Value).ownBlock ∧ some k_ ≠ ((.slice Ao179 t628.length co179) : Value).ownBlock ∧ some k_ ≠ ((.slice Ao180 t629.length co180) : Value).ownBlock) (.slice Ao175 t616.length co175) t616) ∧ Aside0 (Kd.R (Kd.int .i64) 3 wc w.heap.size (fun k_ => some k_ ≠ (v599 : Value).ownBlock ∧ some k_ ≠ ((.slice Ao172 t609.length co172) : Value).ownBlock ∧ some k_ ≠ ((.slice Ao175 t616.length co175) : Value).ownBlock ∧ some k_ ≠ ((.slice Ao179 t628.length co179) : Value).ownBlock ∧ some k_ ≠ ((.slice Ao180 t629.length co180) : Value).ownBlock) v622 t620) ∧ Aside0 (Kd.R (Kd.int .i64) 3 wc w.heap.size (fun k_ => some k_ ≠ (v599 : Value).ownBlock ∧ some k_ ≠ ((.slice Ao172 t609.length co172) : Value).ownBlock ∧ some k_ ≠ ((.slice Ao175 t616.length co175) : Value).ownBlock ∧ some k_ ≠ (v622 : Value).ownBlock ∧ some k_ ≠ ((.slice Ao180 t629.length co180) : Value).ownBlock) (.slice Ao179 t628.length co179) t628) ∧ Aside0 (Kd.R (Kd.int .i64) 3 wc w.heap.size (fun k_ => some k_ ≠ (v599 : Value).ownBlock ∧ some k_ ≠ ((.slice Ao172 t609.length co172) : Value).ownBlock ∧ some k_ ≠ ((.slice Ao175 t616.length co175) : Value).ownBlock ∧ some k_ ≠ (v622 : Value).ownBlock ∧ some k_ ≠ ((.slice Ao179 t628.length co179) : Value).ownBlock) (.slice Ao180 t629.length co180) t629) ∧ Aside0 (Below w.heap.size w wc)) ?rest ?first
  case first =>
   intro J_ K_ hJ_ hK_
   repeat revert ‹_›
   intro HP0_ HP1_
   exact HP0_.out
  case rest =>
   intro f_ wc hcut
   dsimp only [maskF] at hcut ⊢
   generalize f_ 486 = u486 at hcut ⊢
   repeat revert ‹_›
   intro HP0_ HP1_
   exact HP1_.out
end Go.Proofs.Ytcgilnmljflebaa.A
