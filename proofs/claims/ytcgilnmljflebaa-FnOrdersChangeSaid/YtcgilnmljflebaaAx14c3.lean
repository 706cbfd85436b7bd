-- written by a program of this session's over the kit's print (xp.py)
import Derived.Test.YtcgilnmljflebaaAx0
import Derived.Test.YtcgilnmljflebaaAx1
import Derived.Test.YtcgilnmljflebaaAx2
import Derived.Test.YtcgilnmljflebaaAx3
import Derived.Test.YtcgilnmljflebaaAx4
import Derived.Test.YtcgilnmljflebaaAx5
import Derived.Test.YtcgilnmljflebaaAx6
import Derived.Test.YtcgilnmljflebaaAx7
import Derived.Test.YtcgilnmljflebaaAx8
import Derived.Test.YtcgilnmljflebaaAx9
import Derived.Test.YtcgilnmljflebaaAx10
import Derived.Test.YtcgilnmljflebaaAx11
import Derived.Test.YtcgilnmljflebaaAx12
import Derived.Test.YtcgilnmljflebaaAx13
import Derived.Test.YtcgilnmljflebaaAx14
import Derived.Test.YtcgilnmljflebaaAx14c2
-- halved
namespace Go.Proofs.Ytcgilnmljflebaa.A
-- slim
set_option maxHeartbeats 8000000
set_option maxRecDepth 100000
open Go.RowKit Go.Proofs.YtcgilnmljflebaaW.PrintWords Go.Proofs.YtcgilnmljflebaaW.PrintLast Go.Proofs.YtcgilnmljflebaaW.PrintMore
attribute [local go_sem] max2_int min2_int max_two min_two max_three min_three max_four min_four   -- for this text's walks alone
set_option linter.unusedVariables false
set_option linter.unusedSimpArgs false
theorem laws_FnOrdersChange.c24 : laws_FnOrdersChange.c23.1 := by
 intro k A0 c0 l0 A1 c1 l1 r w HR0 HC0 HR1 HC1 A3 t530 t531 A5 t532 t533 A6 t536 t537 A7 _ _ _ w9 w10 v534 w11 v538 HO535 HO539 _ _ _ HO_7 _ kj7 HJ7 _ _ kj16 HJ16 t549 t550 t551 A35 t552 t553 A36 t556 t557 A37 t560 t561 A38 t562 t563 A39 t564 t565 A40 t568 t569 A41 t570 t571 A42 t572 t573 A43 t574 t575 A44 w46 w47 v554 w48 v558 _ _ w49 Ao50 co50 _ w51 HO555 HO559 HO567 _ _ _ _ _ HO_18 _ _ kj44 HJ44 _ _ HO_27 _ kj92 HJ92 _ _ kj124 HJ124 t595 t596 A151 t597 t598 A152 t601 t602 A153 t605 t606 A154 t607 t608 A155 t609 A156 t612 t613 A157 t614 t615 A158 t616 t617 A159 t620 t621 A160 t624 t625 A161 t628 t629 A162 t634 t635 A163 t636 t637 A164 w166 w167 v599 w168 v603 w169 w170 w171 Ao172 co172 w173 _ w174 Ao175 co175 w176 v622 w177 v626 w178 _ Ao179 co179 Ao180 co180 HO600 HO604 HO611 HO619 HO623 HO627 HO631 HO633 _ nd _ _ _ _ _ _ _ _ _ kj164 HJ164 _ _ HO_46 _ _ _ _ _ _ kj226 HJ226 _ _ HO_54 _ _ _ _ _ kj240 HJ240 f_ wc HO_59 HO_61 HO_65 HO_66 HB kj273 HJ273 HC285 _ _ J_ K_ hJ_ hK_
 have H := HC285.out
 clear HC285
 by_cases c286 : t621 = true
 ·subst c286
  rw [if_pos rfl] at H
  have H1 := H
  clear H
  have H := H1
  clear H1
  replace H := Option.bind_eq_some_iff.mp H
  obtain ⟨⟨t656, t657⟩, A2870, H⟩ := H
  try dsimp +instances only at H
  replace H := H
  have A287 := Aside0.mk A2870
  clear A2870
  replace H := Option.bind_eq_some_iff.mp H
  obtain ⟨⟨t658, t659⟩, A2880, H⟩ := H
  try dsimp +instances only at H
  replace H := H
  have A288 := Aside0.mk A2880
  clear A2880
  by_cases c289 : t657 = true
  ·subst c289
   rw [if_pos rfl] at H
   have H1 := H
   clear H
   have H := H1
   clear H1
   by_cases c290 : t656 = t617
   ·rw [if_pos c290] at H
    have c290b0 : (t656 == t617) = true := beq_iff_eq.mpr c290
    have c290b1 : (t656 != t617) = false := bne_eq_false_iff_eq.mpr c290
    clear c290
    (first | rw [c290b0] | (simp only [i64_w, i32_w]; rw [c290b0]) | skip)
    by_cases c291 : t659 = true
    ·subst c291
     rw [if_pos rfl] at H
     have H1 := H
     clear H
     have H := H1
     clear H1
     replace H := Option.bind_eq_some_iff.mp H
     obtain ⟨t662, A2920, H⟩ := H
     try dsimp +instances only at H
     replace H := H
     have A292 := Aside0.mk A2920
     clear A2920
     by_cases c293 : t662 = 1
     ·rw [if_pos c293] at H
      have c293b0 : (t662 == 1) = true := beq_iff_eq.mpr c293
      have c293b1 : (t662 != 1) = false := bne_eq_false_iff_eq.mpr c293
      clear c293
      have H' := Aside0.mk H
      clear H
      obtain ⟨Ao294, co294, eo294⟩ := Kd.R_slice HO_61.out
      subst eo294
      go_wp2_with (first | ((with_reducible refine gate_callee (f := 33) rfl ?_); refine goesL_ (some 566) rfl rfl Try.func33 (by kernel_rfl) rfl #[.slice Ao175 t616.length co175, .slice Ao294 t620.length co294] rfl (by (try simp only [List.map_toArray, List.map_cons, List.map_nil]); first | done | rfl | (simp only [List.length_drop, List.length_take]; rfl)) ?_; (with_reducible refine (impl_RankOfMixed.calls kj273 _ _ t616 _ _ t620 t656 true _ ?side1 ?side2 ?side3 ?side4 A287.out).mono ?_); (case side1 => repeat (first | exact (Kd.R_reads' HO_59.out).2.2 | (with_reducible refine Kd.C_alloc ?_ _) | (with_reducible refine Kd.C_drewN ?_ _) | (with_reducible refine Kd.C_drew ?_))); (case side2 => exact (Kd.R_reads' HO_59.out).2.1); (case side3 => repeat (first | exact (Kd.R_reads' HO_61.out).2.2 | (with_reducible refine Kd.C_alloc ?_ _) | (with_reducible refine Kd.C_drewN ?_ _) | (with_reducible refine Kd.C_drew ?_))); (case side4 => exact (Kd.R_reads' HO_61.out).2.1); rintro e w' ⟨rfl, ⟨nd, rfl⟩⟩; refine ⟨_, rfl, ?_⟩) | ((with_reducible refine gate_callee (f := 30) rfl ?_); refine goesL_ (some 573) rfl rfl Try.func30 (by kernel_rfl) rfl #[.slice Ao175 t616.length co175, .int .i64 (wrap64 (t617 + 1))] rfl (by (try simp only [List.map_toArray, List.map_cons, List.map_nil]); first | done | rfl | (simp only [List.length_drop, List.length_take]; rfl)) ?_; (with_reducible refine (impl_MixedAt.calls kj273 _ _ t616 (wrap64 (t617 + 1)) t658 true _ ?side1 ?side2 A288.out).mono ?_); (case side1 => repeat (first | exact (Kd.R_reads' HO_59.out).2.2 | (with_reducible refine Kd.C_alloc ?_ _) | (with_reducible refine Kd.C_drewN ?_ _) | (with_reducible refine Kd.C_drew ?_))); (case side2 => exact (Kd.R_reads' HO_59.out).2.1); rintro e w295 ⟨v660, rfl, ho0, hb⟩; refine ⟨_, rfl, ?_⟩; have n0_ := Aside0.mk (Kd.R_elder' (by (with_reducible repeat (first | apply Kd.R_alloc | apply Kd.R_drewN | apply Kd.R_drew)); exact HO_59.out) (Kd.R_base ho0) hb); have n1_ := Aside0.mk (Kd.R_elder' (by (with_reducible repeat (first | apply Kd.R_alloc | apply Kd.R_drewN | apply Kd.R_drew)); exact HO_61.out) (Kd.R_base ho0) hb); have n2_ := Aside0.mk (Kd.R_elder' (by (with_reducible repeat (first | apply Kd.R_alloc | apply Kd.R_drewN | apply Kd.R_drew)); exact HO_65.out) (Kd.R_base ho0) hb); have n3_ := Aside0.mk (Kd.R_elder' (by (with_reducible repeat (first | apply Kd.R_alloc | apply Kd.R_drewN | apply Kd.R_drew)); exact HO_66.out) (Kd.R_base ho0) hb); have n4_ := Aside0.mk (Kd.R_lower (Kd.R_new' (Kd.R_new' (Kd.R_new' (Kd.R_new' ho0 (Kd.R_lt (by (with_reducible repeat (first | apply Kd.R_alloc | apply Kd.R_drewN | apply Kd.R_drew)); exact HO_59.out))) (Kd.R_lt (by (with_reducible repeat (first | apply Kd.R_alloc | apply Kd.R_drewN | apply Kd.R_drew)); exact HO_61.out))) (Kd.R_lt (by (with_reducible repeat (first | apply Kd.R_alloc | apply Kd.R_drewN | apply Kd.R_drew)); exact HO_65.out))) (Kd.R_lt (by (with_reducible repeat (first | apply Kd.R_alloc | apply Kd.R_drewN | apply Kd.R_drew)); exact HO_66.out))) (below_size (by repeat (first | (with_reducible first | exact HB.out | apply below_alloc | apply pw_below_drewN | apply below_drew1) | exact HB.out)))); have n5_ := Aside0.mk (below_step (by repeat (first | (with_reducible first | exact HB.out | apply below_alloc | apply pw_below_drewN | apply below_drew1) | exact HB.out)) hb); clear HO_59; clear HO_61; clear HO_65; clear HO_66; clear HB; have HO_59 := n0_; have HO_61 := n1_; have HO_65 := n2_; have HO_66 := n3_; have HO661 := n4_; have HB := n5_; clear n0_ n1_ n2_ n3_ n4_ n5_; (try clear hb); (try clear hb2); (try clear hk); (try clear hi); (try clear ho0); obtain ⟨Ao296, co296, eo296⟩ := Kd.R_slice HO661.out; subst eo296) | (go_at_call 35; (with_reducible refine (laws_xParts.calls kj273 _ _ t620 _ _ t658 t662 _ ?side1 ?side2 ?side3 ?side4 A292.out).mono ?_); (case side1 => repeat (first | exact (Kd.R_reads' HO_61.out).2.2 | (with_reducible refine Kd.C_alloc ?_ _) | (with_reducible refine Kd.C_drewN ?_ _) | (with_reducible refine Kd.C_drew ?_))); (case side2 => exact (Kd.R_reads' HO_61.out).2.1); (case side3 => repeat (first | exact (Kd.R_reads' HO661.out).2.2 | (with_reducible refine Kd.C_alloc ?_ _) | (with_reducible refine Kd.C_drewN ?_ _) | (with_reducible refine Kd.C_drew ?_))); (case side4 => exact (Kd.R_reads' HO661.out).2.1); rintro e w' ⟨rfl, ⟨nd, rfl⟩⟩))
      refine Met.intro (hJ_ _ _ ?mg_ ?rel)
      case mg_ => kernel_rfl
      case rel => exact ⟨_, H', ⟨by have := HJ7.out; have := HJ16.out; have := HJ44.out; have := HJ92.out; have := HJ124.out; have := HJ164.out; have := HJ226.out; have := HJ240.out; have := HJ273.out; first | omega | exact Nat.le_refl _⟩, ⟨by (with_reducible repeat (first | apply Kd.R_alloc | apply Kd.R_drewN | apply Kd.R_drew)); exact Kd.R_mono HO_65.out (fun _ hk => hk.1.2.2)⟩, ⟨by (with_reducible repeat (first | apply Kd.R_alloc | apply Kd.R_drewN | apply Kd.R_drew)); exact Kd.R_mono HO_66.out (fun _ hk => hk.1.2.2)⟩, ⟨by repeat (first | (with_reducible first | exact HB.out | apply below_alloc | apply pw_below_drewN | apply below_drew1) | exact HB.out)⟩⟩
     ·rw [if_neg c293] at H
      have c293b0 : (t662 == 1) = false := beq_eq_false_iff_ne.mpr c293
      have c293b1 : (t662 != 1) = true := bne_iff_ne.mpr c293
      obtain rfl := Option.some.inj H
      obtain ⟨Ao297, co297, eo297⟩ := Kd.R_slice HO_61.out
      subst eo297
      go_wp2_with (first | ((with_reducible refine gate_callee (f := 33) rfl ?_); refine goesL_ (some 566) rfl rfl Try.func33 (by kernel_rfl) rfl #[.slice Ao175 t616.length co175, .slice Ao297 t620.length co297] rfl (by (try simp only [List.map_toArray, List.map_cons, List.map_nil]); first | done | rfl | (simp only [List.length_drop, List.length_take]; rfl)) ?_; (with_reducible refine (impl_RankOfMixed.calls kj273 _ _ t616 _ _ t620 t656 true _ ?side1 ?side2 ?side3 ?side4 A287.out).mono ?_); (case side1 => repeat (first | exact (Kd.R_reads' HO_59.out).2.2 | (with_reducible refine Kd.C_alloc ?_ _) | (with_reducible refine Kd.C_drewN ?_ _) | (with_reducible refine Kd.C_drew ?_))); (case side2 => exact (Kd.R_reads' HO_59.out).2.1); (case side3 => repeat (first | exact (Kd.R_reads' HO_61.out).2.2 | (with_reducible refine Kd.C_alloc ?_ _) | (with_reducible refine Kd.C_drewN ?_ _) | (with_reducible refine Kd.C_drew ?_))); (case side4 => exact (Kd.R_reads' HO_61.out).2.1); rintro e w' ⟨rfl, ⟨nd, rfl⟩⟩; refine ⟨_, rfl, ?_⟩) | ((with_reducible refine gate_callee (f := 30) rfl ?_); refine goesL_ (some 573) rfl rfl Try.func30 (by kernel_rfl) rfl #[.slice Ao175 t616.length co175, .int .i64 (wrap64 (t617 + 1))] rfl (by (try simp only [List.map_toArray, List.map_cons, List.map_nil]); first | done | rfl | (simp only [List.length_drop, List.length_take]; rfl)) ?_; (with_reducible refine (impl_MixedAt.calls kj273 _ _ t616 (wrap64 (t617 + 1)) t658 true _ ?side1 ?side2 A288.out).mono ?_); (case side1 => repeat (first | exact (Kd.R_reads' HO_59.out).2.2 | (with_reducible refine Kd.C_alloc ?_ _) | (with_reducible refine Kd.C_drewN ?_ _) | (with_reducible refine Kd.C_drew ?_))); (case side2 => exact (Kd.R_reads' HO_59.out).2.1); rintro e w298 ⟨v660, rfl, ho0, hb⟩; refine ⟨_, rfl, ?_⟩; have n0_ := Aside0.mk (Kd.R_elder' (by (with_reducible repeat (first | apply Kd.R_alloc | apply Kd.R_drewN | apply Kd.R_drew)); exact HO_59.out) (Kd.R_base ho0) hb); have n1_ := Aside0.mk (Kd.R_elder' (by (with_reducible repeat (first | apply Kd.R_alloc | apply Kd.R_drewN | apply Kd.R_drew)); exact HO_61.out) (Kd.R_base ho0) hb); have n2_ := Aside0.mk (Kd.R_elder' (by (with_reducible repeat (first | apply Kd.R_alloc | apply Kd.R_drewN | apply Kd.R_drew)); exact HO_65.out) (Kd.R_base ho0) hb); have n3_ := Aside0.mk (Kd.R_elder' (by (with_reducible repeat (first | apply Kd.R_alloc | apply Kd.R_drewN | apply Kd.R_drew)); exact HO_66.out) (Kd.R_base ho0) hb); have n4_ := Aside0.mk (Kd.R_lower (Kd.R_new' (Kd.R_new' (Kd.R_new' (Kd.R_new' ho0 (Kd.R_lt (by (with_reducible repeat (first | apply Kd.R_alloc | apply Kd.R_drewN | apply Kd.R_drew)); exact HO_59.out))) (Kd.R_lt (by (with_reducible repeat (first | apply Kd.R_alloc | apply Kd.R_drewN | apply Kd.R_drew)); exact HO_61.out))) (Kd.R_lt (by (with_reducible repeat (first | apply Kd.R_alloc | apply Kd.R_drewN | apply Kd.R_drew)); exact HO_65.out))) (Kd.R_lt (by (with_reducible repeat (first | apply Kd.R_alloc | apply Kd.R_drewN | apply Kd.R_drew)); exact HO_66.out))) (below_size (by repeat (first | (with_reducible first | exact HB.out | apply below_alloc | apply pw_below_drewN | apply below_drew1) | exact HB.out)))); have n5_ := Aside0.mk (below_step (by repeat (first | (with_reducible first | exact HB.out | apply below_alloc | apply pw_below_drewN | apply below_drew1) | exact HB.out)) hb); clear HO_59; clear HO_61; clear HO_65; clear HO_66; clear HB; have HO_59 := n0_; have HO_61 := n1_; have HO_65 := n2_; have HO_66 := n3_; have HO661 := n4_; have HB := n5_; clear n0_ n1_ n2_ n3_ n4_ n5_; (try clear hb); (try clear hb2); (try clear hk); (try clear hi); (try clear ho0); obtain ⟨Ao299, co299, eo299⟩ := Kd.R_slice HO661.out; subst eo299) | (go_at_call 35; (with_reducible refine (laws_xParts.calls kj273 _ _ t620 _ _ t658 t662 _ ?side1 ?side2 ?side3 ?side4 A292.out).mono ?_); (case side1 => repeat (first | exact (Kd.R_reads' HO_61.out).2.2 | (with_reducible refine Kd.C_alloc ?_ _) | (with_reducible refine Kd.C_drewN ?_ _) | (with_reducible refine Kd.C_drew ?_))); (case side2 => exact (Kd.R_reads' HO_61.out).2.1); (case side3 => repeat (first | exact (Kd.R_reads' HO661.out).2.2 | (with_reducible refine Kd.C_alloc ?_ _) | (with_reducible refine Kd.C_drewN ?_ _) | (with_reducible refine Kd.C_drew ?_))); (case side4 => exact (Kd.R_reads' HO661.out).2.1); rintro e w' ⟨rfl, ⟨nd, rfl⟩⟩))
      go_ret
      exact ⟨by first | rfl | (simp [errW_none, errW_some] <;> rfl) | (simp [*, errW_none, errW_some] <;> rfl), by repeat (first | (with_reducible first | exact HB.out | apply below_alloc | apply pw_below_drewN | apply below_drew1) | exact HB.out)⟩
    ·replace c291 := Bool.eq_false_iff.mpr c291
     subst c291
     rw [if_neg (show ¬ (false = true) by decide)] at H
     have H1 := H
     clear H
     have H := H1
     clear H1
     have H' := Aside0.mk H
     clear H
     obtain ⟨Ao300, co300, eo300⟩ := Kd.R_slice HO_61.out
     subst eo300
     go_wp2_with (first | ((with_reducible refine gate_callee (f := 33) rfl ?_); refine goesL_ (some 566) rfl rfl Try.func33 (by kernel_rfl) rfl #[.slice Ao175 t616.length co175, .slice Ao300 t620.length co300] rfl (by (try simp only [List.map_toArray, List.map_cons, List.map_nil]); first | done | rfl | (simp only [List.length_drop, List.length_take]; rfl)) ?_; (with_reducible refine (impl_RankOfMixed.calls kj273 _ _ t616 _ _ t620 t656 true _ ?side1 ?side2 ?side3 ?side4 A287.out).mono ?_); (case side1 => repeat (first | exact (Kd.R_reads' HO_59.out).2.2 | (with_reducible refine Kd.C_alloc ?_ _) | (with_reducible refine Kd.C_drewN ?_ _) | (with_reducible refine Kd.C_drew ?_))); (case side2 => exact (Kd.R_reads' HO_59.out).2.1); (case side3 => repeat (first | exact (Kd.R_reads' HO_61.out).2.2 | (with_reducible refine Kd.C_alloc ?_ _) | (with_reducible refine Kd.C_drewN ?_ _) | (with_reducible refine Kd.C_drew ?_))); (case side4 => exact (Kd.R_reads' HO_61.out).2.1); rintro e w' ⟨rfl, ⟨nd, rfl⟩⟩; refine ⟨_, rfl, ?_⟩) | ((with_reducible refine gate_callee (f := 30) rfl ?_); refine goesL_ (some 573) rfl rfl Try.func30 (by kernel_rfl) rfl #[.slice Ao175 t616.length co175, .int .i64 (wrap64 (t617 + 1))] rfl (by (try simp only [List.map_toArray, List.map_cons, List.map_nil]); first | done | rfl | (simp only [List.length_drop, List.length_take]; rfl)) ?_; (with_reducible refine (impl_MixedAt.calls kj273 _ _ t616 (wrap64 (t617 + 1)) t658 false _ ?side1 ?side2 A288.out).mono ?_); (case side1 => repeat (first | exact (Kd.R_reads' HO_59.out).2.2 | (with_reducible refine Kd.C_alloc ?_ _) | (with_reducible refine Kd.C_drewN ?_ _) | (with_reducible refine Kd.C_drew ?_))); (case side2 => exact (Kd.R_reads' HO_59.out).2.1); rintro e w301 ⟨v660, rfl, ho0, hb⟩; refine ⟨_, rfl, ?_⟩; have n0_ := Aside0.mk (Kd.R_elder' (by (with_reducible repeat (first | apply Kd.R_alloc | apply Kd.R_drewN | apply Kd.R_drew)); exact HO_59.out) (Kd.R_base ho0) hb); have n1_ := Aside0.mk (Kd.R_elder' (by (with_reducible repeat (first | apply Kd.R_alloc | apply Kd.R_drewN | apply Kd.R_drew)); exact HO_61.out) (Kd.R_base ho0) hb); have n2_ := Aside0.mk (Kd.R_elder' (by (with_reducible repeat (first | apply Kd.R_alloc | apply Kd.R_drewN | apply Kd.R_drew)); exact HO_65.out) (Kd.R_base ho0) hb); have n3_ := Aside0.mk (Kd.R_elder' (by (with_reducible repeat (first | apply Kd.R_alloc | apply Kd.R_drewN | apply Kd.R_drew)); exact HO_66.out) (Kd.R_base ho0) hb); have n4_ := Aside0.mk (Kd.R_lower (Kd.R_new' (Kd.R_new' (Kd.R_new' (Kd.R_new' ho0 (Kd.R_lt (by (with_reducible repeat (first | apply Kd.R_alloc | apply Kd.R_drewN | apply Kd.R_drew)); exact HO_59.out))) (Kd.R_lt (by (with_reducible repeat (first | apply Kd.R_alloc | apply Kd.R_drewN | apply Kd.R_drew)); exact HO_61.out))) (Kd.R_lt (by (with_reducible repeat (first | apply Kd.R_alloc | apply Kd.R_drewN | apply Kd.R_drew)); exact HO_65.out))) (Kd.R_lt (by (with_reducible repeat (first | apply Kd.R_alloc | apply Kd.R_drewN | apply Kd.R_drew)); exact HO_66.out))) (below_size (by repeat (first | (with_reducible first | exact HB.out | apply below_alloc | apply pw_below_drewN | apply below_drew1) | exact HB.out)))); have n5_ := Aside0.mk (below_step (by repeat (first | (with_reducible first | exact HB.out | apply below_alloc | apply pw_below_drewN | apply below_drew1) | exact HB.out)) hb); clear HO_59; clear HO_61; clear HO_65; clear HO_66; clear HB; have HO_59 := n0_; have HO_61 := n1_; have HO_65 := n2_; have HO_66 := n3_; have HO661 := n4_; have HB := n5_; clear n0_ n1_ n2_ n3_ n4_ n5_; (try clear hb); (try clear hb2); (try clear hk); (try clear hi); (try clear ho0)))
     refine Met.intro (hJ_ _ _ ?mg_ ?rel)
     case mg_ => kernel_rfl
     case rel => exact ⟨_, H', ⟨by have := HJ7.out; have := HJ16.out; have := HJ44.out; have := HJ92.out; have := HJ124.out; have := HJ164.out; have := HJ226.out; have := HJ240.out; have := HJ273.out; first | omega | exact Nat.le_refl _⟩, ⟨by (with_reducible repeat (first | apply Kd.R_alloc | apply Kd.R_drewN | apply Kd.R_drew)); exact Kd.R_mono HO_65.out (fun _ hk => hk.1.2.2)⟩, ⟨by (with_reducible repeat (first | apply Kd.R_alloc | apply Kd.R_drewN | apply Kd.R_drew)); exact Kd.R_mono HO_66.out (fun _ hk => hk.1.2.2)⟩, ⟨by repeat (first | (with_reducible first | exact HB.out | apply below_alloc | apply pw_below_drewN | apply below_drew1) | exact HB.out)⟩⟩
   ·rw [if_neg c290] at H
    have c290b0 : (t656 == t617) = false := beq_eq_false_iff_ne.mpr c290
    have c290b1 : (t656 != t617) = true := bne_iff_ne.mpr c290
    (first | rw [c290b0] | (simp only [i64_w, i32_w]; rw [c290b0]) | skip)
    obtain rfl := Option.some.inj H
    obtain ⟨Ao302, co302, eo302⟩ := Kd.R_slice HO_61.out
    subst eo302
    go_wp2_with (first | ((with_reducible refine gate_callee (f := 33) rfl ?_); refine goesL_ (some 566) rfl rfl Try.func33 (by kernel_rfl) rfl #[.slice Ao175 t616.length co175, .slice Ao302 t620.length co302] rfl (by (try simp only [List.map_toArray, List.map_cons, List.map_nil]); first | done | rfl | (simp only [List.length_drop, List.length_take]; rfl)) ?_; (with_reducible refine (impl_RankOfMixed.calls kj273 _ _ t616 _ _ t620 t656 true _ ?side1 ?side2 ?side3 ?side4 A287.out).mono ?_); (case side1 => repeat (first | exact (Kd.R_reads' HO_59.out).2.2 | (with_reducible refine Kd.C_alloc ?_ _) | (with_reducible refine Kd.C_drewN ?_ _) | (with_reducible refine Kd.C_drew ?_))); (case side2 => exact (Kd.R_reads' HO_59.out).2.1); (case side3 => repeat (first | exact (Kd.R_reads' HO_61.out).2.2 | (with_reducible refine Kd.C_alloc ?_ _) | (with_reducible refine Kd.C_drewN ?_ _) | (with_reducible refine Kd.C_drew ?_))); (case side4 => exact (Kd.R_reads' HO_61.out).2.1); rintro e w' ⟨rfl, ⟨nd, rfl⟩⟩; refine ⟨_, rfl, ?_⟩) | ((with_reducible refine gate_callee (f := 30) rfl ?_); refine goesL_ (some 573) rfl rfl Try.func30 (by kernel_rfl) rfl #[.slice Ao175 t616.length co175, .int .i64 (wrap64 (t617 + 1))] rfl (by (try simp only [List.map_toArray, List.map_cons, List.map_nil]); first | done | rfl | (simp only [List.length_drop, List.length_take]; rfl)) ?_; (with_reducible refine (impl_MixedAt.calls kj273 _ _ t616 (wrap64 (t617 + 1)) t658 t659 _ ?side1 ?side2 A288.out).mono ?_); (case side1 => repeat (first | exact (Kd.R_reads' HO_59.out).2.2 | (with_reducible refine Kd.C_alloc ?_ _) | (with_reducible refine Kd.C_drewN ?_ _) | (with_reducible refine Kd.C_drew ?_))); (case side2 => exact (Kd.R_reads' HO_59.out).2.1); rintro e w303 ⟨v660, rfl, ho0, hb⟩; refine ⟨_, rfl, ?_⟩; have n0_ := Aside0.mk (Kd.R_elder' (by (with_reducible repeat (first | apply Kd.R_alloc | apply Kd.R_drewN | apply Kd.R_drew)); exact HO_59.out) (Kd.R_base ho0) hb); have n1_ := Aside0.mk (Kd.R_elder' (by (with_reducible repeat (first | apply Kd.R_alloc | apply Kd.R_drewN | apply Kd.R_drew)); exact HO_61.out) (Kd.R_base ho0) hb); have n2_ := Aside0.mk (Kd.R_elder' (by (with_reducible repeat (first | apply Kd.R_alloc | apply Kd.R_drewN | apply Kd.R_drew)); exact HO_65.out) (Kd.R_base ho0) hb); have n3_ := Aside0.mk (Kd.R_elder' (by (with_reducible repeat (first | apply Kd.R_alloc | apply Kd.R_drewN | apply Kd.R_drew)); exact HO_66.out) (Kd.R_base ho0) hb); have n4_ := Aside0.mk (Kd.R_lower (Kd.R_new' (Kd.R_new' (Kd.R_new' (Kd.R_new' ho0 (Kd.R_lt (by (with_reducible repeat (first | apply Kd.R_alloc | apply Kd.R_drewN | apply Kd.R_drew)); exact HO_59.out))) (Kd.R_lt (by (with_reducible repeat (first | apply Kd.R_alloc | apply Kd.R_drewN | apply Kd.R_drew)); exact HO_61.out))) (Kd.R_lt (by (with_reducible repeat (first | apply Kd.R_alloc | apply Kd.R_drewN | apply Kd.R_drew)); exact HO_65.out))) (Kd.R_lt (by (with_reducible repeat (first | apply Kd.R_alloc | apply Kd.R_drewN | apply Kd.R_drew)); exact HO_66.out))) (below_size (by repeat (first | (with_reducible first | exact HB.out | apply below_alloc | apply pw_below_drewN | apply below_drew1) | exact HB.out)))); have n5_ := Aside0.mk (below_step (by repeat (first | (with_reducible first | exact HB.out | apply below_alloc | apply pw_below_drewN | apply below_drew1) | exact HB.out)) hb); clear HO_59; clear HO_61; clear HO_65; clear HO_66; clear HB; have HO_59 := n0_; have HO_61 := n1_; have HO_65 := n2_; have HO_66 := n3_; have HO661 := n4_; have HB := n5_; clear n0_ n1_ n2_ n3_ n4_ n5_; (try clear hb); (try clear hb2); (try clear hk); (try clear hi); (try clear ho0)))
    go_ret
    exact ⟨by first | rfl | (simp [errW_none, errW_some] <;> rfl) | (simp [*, errW_none, errW_some] <;> rfl), by repeat (first | (with_reducible first | exact HB.out | apply below_alloc | apply pw_below_drewN | apply below_drew1) | exact HB.out)⟩
  ·replace c289 := Bool.eq_false_iff.mpr c289
   subst c289
   rw [if_neg (show ¬ (false = true) by decide)] at H
   have H1 := H
   clear H
   have H := H1
   clear H1
   obtain rfl := Option.some.inj H
   obtain ⟨Ao304, co304, eo304⟩ := Kd.R_slice HO_61.out
   subst eo304
   go_wp2_with (first | ((with_reducible refine gate_callee (f := 33) rfl ?_); refine goesL_ (some 566) rfl rfl Try.func33 (by kernel_rfl) rfl #[.slice Ao175 t616.length co175, .slice Ao304 t620.length co304] rfl (by (try simp only [List.map_toArray, List.map_cons, List.map_nil]); first | done | rfl | (simp only [List.length_drop, List.length_take]; rfl)) ?_; (with_reducible refine (impl_RankOfMixed.calls kj273 _ _ t616 _ _ t620 t656 false _ ?side1 ?side2 ?side3 ?side4 A287.out).mono ?_); (case side1 => repeat (first | exact (Kd.R_reads' HO_59.out).2.2 | (with_reducible refine Kd.C_alloc ?_ _) | (with_reducible refine Kd.C_drewN ?_ _) | (with_reducible refine Kd.C_drew ?_))); (case side2 => exact (Kd.R_reads' HO_59.out).2.1); (case side3 => repeat (first | exact (Kd.R_reads' HO_61.out).2.2 | (with_reducible refine Kd.C_alloc ?_ _) | (with_reducible refine Kd.C_drewN ?_ _) | (with_reducible refine Kd.C_drew ?_))); (case side4 => exact (Kd.R_reads' HO_61.out).2.1); rintro e w' ⟨rfl, ⟨nd, rfl⟩⟩; refine ⟨_, rfl, ?_⟩) | ((with_reducible refine gate_callee (f := 30) rfl ?_); refine goesL_ (some 573) rfl rfl Try.func30 (by kernel_rfl) rfl #[.slice Ao175 t616.length co175, .int .i64 (wrap64 (t617 + 1))] rfl (by (try simp only [List.map_toArray, List.map_cons, List.map_nil]); first | done | rfl | (simp only [List.length_drop, List.length_take]; rfl)) ?_; (with_reducible refine (impl_MixedAt.calls kj273 _ _ t616 (wrap64 (t617 + 1)) t658 t659 _ ?side1 ?side2 A288.out).mono ?_); (case side1 => repeat (first | exact (Kd.R_reads' HO_59.out).2.2 | (with_reducible refine Kd.C_alloc ?_ _) | (with_reducible refine Kd.C_drewN ?_ _) | (with_reducible refine Kd.C_drew ?_))); (case side2 => exact (Kd.R_reads' HO_59.out).2.1); rintro e w305 ⟨v660, rfl, ho0, hb⟩; refine ⟨_, rfl, ?_⟩; have n0_ := Aside0.mk (Kd.R_elder' (by (with_reducible repeat (first | apply Kd.R_alloc | apply Kd.R_drewN | apply Kd.R_drew)); exact HO_59.out) (Kd.R_base ho0) hb); have n1_ := Aside0.mk (Kd.R_elder' (by (with_reducible repeat (first | apply Kd.R_alloc | apply Kd.R_drewN | apply Kd.R_drew)); exact HO_61.out) (Kd.R_base ho0) hb); have n2_ := Aside0.mk (Kd.R_elder' (by (with_reducible repeat (first | apply Kd.R_alloc | apply Kd.R_drewN | apply Kd.R_drew)); exact HO_65.out) (Kd.R_base ho0) hb); have n3_ := Aside0.mk (Kd.R_elder' (by (with_reducible repeat (first | apply Kd.R_alloc | apply Kd.R_drewN | apply Kd.R_drew)); exact HO_66.out) (Kd.R_base ho0) hb); have n4_ := Aside0.mk (Kd.R_lower (Kd.R_new' (Kd.R_new' (Kd.R_new' (Kd.R_new' ho0 (Kd.R_lt (by (with_reducible repeat (first | apply Kd.R_alloc | apply Kd.R_drewN | apply Kd.R_drew)); exact HO_59.out))) (Kd.R_lt (by (with_reducible repeat (first | apply Kd.R_alloc | apply Kd.R_drewN | apply Kd.R_drew)); exact HO_61.out))) (Kd.R_lt (by (with_reducible repeat (first | apply Kd.R_alloc | apply Kd.R_drewN | apply Kd.R_drew)); exact HO_65.out))) (Kd.R_lt (by (with_reducible repeat (first | apply Kd.R_alloc | apply Kd.R_drewN | apply Kd.R_drew)); exact HO_66.out))) (below_size (by repeat (first | (with_reducible first | exact HB.out | apply below_alloc | apply pw_below_drewN | apply below_drew1) | exact HB.out)))); have n5_ := Aside0.mk (below_step (by repeat (first | (with_reducible first | exact HB.out | apply below_alloc | apply pw_below_drewN | apply below_drew1) | exact HB.out)) hb); clear HO_59; clear HO_61; clear HO_65; clear HO_66; clear HB; have HO_59 := n0_; have HO_61 := n1_; have HO_65 := n2_; have HO_66 := n3_; have HO661 := n4_; have HB := n5_; clear n0_ n1_ n2_ n3_ n4_ n5_; (try clear hb); (try clear hb2); (try clear hk); (try clear hi); (try clear ho0)))
   go_ret
   exact ⟨by first | rfl | (simp [errW_none, errW_some] <;> rfl) | (simp [*, errW_none, errW_some] <;> rfl), by repeat (first | (with_reducible first | exact HB.out | apply below_alloc | apply pw_below_drewN | apply below_drew1) | exact HB.out)⟩
 ·replace c286 := Bool.eq_false_iff.mpr c286
  subst c286
  rw [if_neg (show ¬ (false = true) by decide)] at H
  have H1 := H
  clear H
  have H := H1
  clear H1
  have H' := Aside0.mk H
  clear H
  go_wp2
  refine Met.intro (hJ_ _ _ ?mg_ ?rel)
  case mg_ => kernel_rfl
  case rel => exact ⟨_, H', ⟨by have := HJ7.out; have := HJ16.out; have := HJ44.out; have := HJ92.out; have := HJ124.out; have := HJ164.out; have := HJ226.out; have := HJ240.out; have := HJ273.out; first | omega | exact Nat.le_refl _⟩, ⟨by (with_reducible repeat (first | apply Kd.R_alloc | apply Kd.R_drewN | apply Kd.R_drew)); exact Kd.R_mono HO_65.out (fun _ hk => hk.2.2)⟩, ⟨by (with_reducible repeat (first | apply Kd.R_alloc | apply Kd.R_drewN | apply Kd.R_drew)); exact Kd.R_mono HO_66.out (fun _ hk => hk.2.2)⟩, ⟨by repeat (first | (with_reducible first | exact HB.out | apply below_alloc | apply pw_below_drewN | apply below_drew1) | exact HB.out)⟩⟩
theorem laws_FnOrdersChange.c25 : laws_FnOrdersChange.c23.2.1 := by
 intro k A0 c0 l0 A1 c1 l1 r w HR0 HC0 HR1 HC1 A3 t530 t531 A5 t532 t533 A6 t536 t537 A7 _ _ _ w9 w10 v534 w11 v538 HO535 HO539 _ _ _ HO_7 _ kj7 HJ7 _ _ kj16 HJ16 t549 t550 t551 A35 t552 t553 A36 t556 t557 A37 t560 t561 A38 t562 t563 A39 t564 t565 A40 t568 t569 A41 t570 t571 A42 t572 t573 A43 t574 t575 A44 w46 w47 v554 w48 v558 _ _ w49 Ao50 co50 _ w51 HO555 HO559 HO567 _ _ _ _ _ HO_18 _ _ kj44 HJ44 _ _ HO_27 _ kj92 HJ92 _ _ kj124 HJ124 t595 t596 A151 t597 t598 A152 t601 t602 A153 t605 t606 A154 t607 t608 A155 t609 A156 t612 t613 A157 t614 t615 A158 t616 t617 A159 t620 t621 A160 t624 t625 A161 t628 t629 A162 t634 t635 A163 t636 t637 A164 w166 w167 v599 w168 v603 w169 w170 w171 Ao172 co172 w173 _ w174 Ao175 co175 w176 v622 w177 v626 w178 _ Ao179 co179 Ao180 co180 HO600 HO604 HO611 HO619 HO623 HO627 HO631 HO633 _ nd _ _ _ _ _ _ _ _ _ kj164 HJ164 _ _ HO_46 _ _ _ _ _ _ kj226 HJ226 _ _ HO_54 _ _ _ _ _ kj240 HJ240 _ _ HO_59 HO_61 HO_65 HO_66 HB kj273 HJ273 HC285 _ _ f_ wc hcut
 clear HC285
 try clear c2
 try clear p2
 try clear c3
 try clear p6
 try clear c22
 try clear c24
 try clear c25
 try clear c27
 try clear c28
 try clear c29
 try clear c30
 try clear c33
 try clear c35
 try clear p64
 try clear c242
 try clear c244
 try clear c246
 try clear c246b0
 try clear c246b1
 try clear c247
 try clear c248
 try clear c250
 try clear c251
 try clear c275
 try clear c277
 try clear c279
 try clear c286
 try clear c289
 try clear c290
 try clear c290b0
 try clear c290b1
 try clear c291
 try clear c293
 try clear c293b0
 try clear c293b1
 try clear p2
 try clear p6
 try clear p64
 obtain ⟨kq, HA, HJ284, HO_65, HO_66, HB⟩ := hcut
 cases kq with
 | zero => exact absurd HA.out (by simp [laws_FnOrdersChange.j10])
 | succ kj284 =>
  have H := HA.out
  clear HA
  simp only [laws_FnOrdersChange.j10] at H
  by_cases c306 : t635 = true
  ·subst c306
   rw [if_pos rfl] at H
   have H1 := H
   clear H
   have H := H1
   clear H1
   replace H := Option.bind_eq_some_iff.mp H
   obtain ⟨⟨t663, t664⟩, A3070, H⟩ := H
   try dsimp +instances only at H
   replace H := H
   have A307 := Aside0.mk A3070
   clear A3070
   by_cases c308 : t664 = true
   ·subst c308
    rw [if_pos rfl] at H
    have H1 := H
    clear H
    have H := H1
    clear H1
    replace H := Option.bind_eq_some_iff.mp H
    obtain ⟨t667, A3090, H⟩ := H
    try dsimp +instances only at H
    replace H := H
    have A309 := Aside0.mk A3090
    clear A3090
    obtain rfl := Option.some.inj H
    go_wp2_with (first | ((with_reducible refine gate_callee (f := 30) rfl ?_); refine goesL_ (some 596) rfl rfl Try.func30 (by kernel_rfl) rfl #[.slice Ao179 t628.length co179, .int .i64 t634] rfl (by (try simp only [List.map_toArray, List.map_cons, List.map_nil]); first | done | rfl | (simp only [List.length_drop, List.length_take]; rfl)) ?_; (with_reducible refine (impl_MixedAt.calls kj284 _ _ t628 t634 t663 true _ ?side1 ?side2 A307.out).mono ?_); (case side1 => repeat (first | exact (Kd.R_reads' HO_65.out).2.2 | (with_reducible refine Kd.C_alloc ?_ _) | (with_reducible refine Kd.C_drewN ?_ _) | (with_reducible refine Kd.C_drew ?_))); (case side2 => exact (Kd.R_reads' HO_65.out).2.1); rintro e w310 ⟨v665, rfl, ho0, hb⟩; refine ⟨_, rfl, ?_⟩; have n0_ := Aside0.mk (Kd.R_elder' (by (with_reducible repeat (first | apply Kd.R_alloc | apply Kd.R_drewN | apply Kd.R_drew)); exact HO_65.out) (Kd.R_base ho0) hb); have n1_ := Aside0.mk (Kd.R_elder' (by (with_reducible repeat (first | apply Kd.R_alloc | apply Kd.R_drewN | apply Kd.R_drew)); exact HO_66.out) (Kd.R_base ho0) hb); have n2_ := Aside0.mk (Kd.R_lower (Kd.R_new' (Kd.R_new' ho0 (Kd.R_lt (by (with_reducible repeat (first | apply Kd.R_alloc | apply Kd.R_drewN | apply Kd.R_drew)); exact HO_65.out))) (Kd.R_lt (by (with_reducible repeat (first | apply Kd.R_alloc | apply Kd.R_drewN | apply Kd.R_drew)); exact HO_66.out))) (below_size (by repeat (first | (with_reducible first | exact HB.out | apply below_alloc | apply pw_below_drewN | apply below_drew1) | exact HB.out)))); have n3_ := Aside0.mk (below_step (by repeat (first | (with_reducible first | exact HB.out | apply below_alloc | apply pw_below_drewN | apply below_drew1) | exact HB.out)) hb); clear HO_65; clear HO_66; clear HB; have HO_65 := n0_; have HO_66 := n1_; have HO666 := n2_; have HB := n3_; clear n0_ n1_ n2_ n3_; (try clear hb); (try clear hb2); (try clear hk); (try clear hi); (try clear ho0); obtain ⟨Ao311, co311, eo311⟩ := Kd.R_slice HO666.out; subst eo311) | (go_at_call 8; (with_reducible refine (laws_xSame.calls kj284 _ _ t663 _ _ t629 t667 _ ?side1 ?side2 ?side3 ?side4 A309.out).mono ?_); (case side1 => repeat (first | exact (Kd.R_reads' HO666.out).2.2 | (with_reducible refine Kd.C_alloc ?_ _) | (with_reducible refine Kd.C_drewN ?_ _) | (with_reducible refine Kd.C_drew ?_))); (case side2 => exact (Kd.R_reads' HO666.out).2.1); (case side3 => repeat (first | exact (Kd.R_reads' HO_66.out).2.2 | (with_reducible refine Kd.C_alloc ?_ _) | (with_reducible refine Kd.C_drewN ?_ _) | (with_reducible refine Kd.C_drew ?_))); (case side4 => exact (Kd.R_reads' HO_66.out).2.1); rintro e w' ⟨rfl, ⟨nd, rfl⟩⟩))
    go_ret
    exact ⟨by first | rfl | (simp [errW_none, errW_some] <;> rfl) | (simp [*, errW_none, errW_some] <;> rfl), by repeat (first | (with_reducible first | exact HB.out | apply below_alloc | apply pw_below_drewN | apply below_drew1) | exact HB.out)⟩
   ·replace c308 := Bool.eq_false_iff.mpr c308
    subst c308
    rw [if_neg (show ¬ (false = true) by decide)] at H
    have H1 := H
    clear H
    have H := H1
    clear H1
    obtain rfl := Option.some.inj H
    go_wp2_with (first | ((with_reducible refine gate_callee (f := 30) rfl ?_); refine goesL_ (some 596) rfl rfl Try.func30 (by kernel_rfl) rfl #[.slice Ao179 t628.length co179, .int .i64 t634] rfl (by (try simp only [List.map_toArray, List.map_cons, List.map_nil]); first | done | rfl | (simp only [List.length_drop, List.length_take]; rfl)) ?_; (with_reducible refine (impl_MixedAt.calls kj284 _ _ t628 t634 t663 false _ ?side1 ?side2 A307.out).mono ?_); (case side1 => repeat (first | exact (Kd.R_reads' HO_65.out).2.2 | (with_reducible refine Kd.C_alloc ?_ _) | (with_reducible refine Kd.C_drewN ?_ _) | (with_reducible refine Kd.C_drew ?_))); (case side2 => exact (Kd.R_reads' HO_65.out).2.1); rintro e w312 ⟨v665, rfl, ho0, hb⟩; refine ⟨_, rfl, ?_⟩; have n0_ := Aside0.mk (Kd.R_elder' (by (with_reducible repeat (first | apply Kd.R_alloc | apply Kd.R_drewN | apply Kd.R_drew)); exact HO_65.out) (Kd.R_base ho0) hb); have n1_ := Aside0.mk (Kd.R_elder' (by (with_reducible repeat (first | apply Kd.R_alloc | apply Kd.R_drewN | apply Kd.R_drew)); exact HO_66.out) (Kd.R_base ho0) hb); have n2_ := Aside0.mk (Kd.R_lower (Kd.R_new' (Kd.R_new' ho0 (Kd.R_lt (by (with_reducible repeat (first | apply Kd.R_alloc | apply Kd.R_drewN | apply Kd.R_drew)); exact HO_65.out))) (Kd.R_lt (by (with_reducible repeat (first | apply Kd.R_alloc | apply Kd.R_drewN | apply Kd.R_drew)); exact HO_66.out))) (below_size (by repeat (first | (with_reducible first | exact HB.out | apply below_alloc | apply pw_below_drewN | apply below_drew1) | exact HB.out)))); have n3_ := Aside0.mk (below_step (by repeat (first | (with_reducible first | exact HB.out | apply below_alloc | apply pw_below_drewN | apply below_drew1) | exact HB.out)) hb); clear HO_65; clear HO_66; clear HB; have HO_65 := n0_; have HO_66 := n1_; have HO666 := n2_; have HB := n3_; clear n0_ n1_ n2_ n3_; (try clear hb); (try clear hb2); (try clear hk); (try clear hi); (try clear ho0)))
    go_ret
    exact ⟨by first | rfl | (simp [errW_none, errW_some] <;> rfl) | (simp [*, errW_none, errW_some] <;> rfl), by repeat (first | (with_reducible first | exact HB.out | apply below_alloc | apply pw_below_drewN | apply below_drew1) | exact HB.out)⟩
  ·replace c306 := Bool.eq_false_iff.mpr c306
   subst c306
   rw [if_neg (show ¬ (false = true) by decide)] at H
   have H1 := H
   clear H
   have H := H1
   clear H1
   obtain rfl := Option.some.inj H
   go_wp2
   go_ret
   exact ⟨by first | rfl | (simp [errW_none, errW_some] <;> rfl) | (simp [*, errW_none, errW_some] <;> rfl), by repeat (first | (with_reducible first | exact HB.out | apply below_alloc | apply pw_below_drewN | apply below_drew1) | exact HB.out)⟩
theorem laws_FnOrdersChange.d23 : laws_FnOrdersChange.c21.2.1 := laws_FnOrdersChange.c23.2.2 ⟨laws_FnOrdersChange.c24⟩ ⟨laws_FnOrdersChange.c25⟩
theorem laws_FnOrdersChange.d21 : laws_FnOrdersChange.c15.2.1 := laws_FnOrdersChange.c21.2.2 ⟨laws_FnOrdersChange.c22⟩ ⟨laws_FnOrdersChange.d23⟩
theorem laws_FnOrdersChange.d16 : laws_FnOrdersChange.c15.1 := laws_FnOrdersChange.c16.2.2.2.2 ⟨laws_FnOrdersChange.c17⟩ ⟨laws_FnOrdersChange.c18⟩ ⟨laws_FnOrdersChange.c19⟩ ⟨laws_FnOrdersChange.c20⟩
theorem laws_FnOrdersChange.d15 : laws_FnOrdersChange.c13.2.1 := laws_FnOrdersChange.c15.2.2 ⟨laws_FnOrdersChange.d16⟩ ⟨laws_FnOrdersChange.d21⟩
theorem laws_FnOrdersChange.d13 : laws_FnOrdersChange.c10.2.1 := laws_FnOrdersChange.c13.2.2 ⟨laws_FnOrdersChange.c14⟩ ⟨laws_FnOrdersChange.d15⟩
theorem laws_FnOrdersChange.d11 : laws_FnOrdersChange.c10.1 := laws_FnOrdersChange.c11.2 ⟨laws_FnOrdersChange.c12⟩
theorem laws_FnOrdersChange.d10 : laws_FnOrdersChange.c8.2.1 := laws_FnOrdersChange.c10.2.2 ⟨laws_FnOrdersChange.d11⟩ ⟨laws_FnOrdersChange.d13⟩
theorem laws_FnOrdersChange.d8 : laws_FnOrdersChange.c6.2.1 := laws_FnOrdersChange.c8.2.2 ⟨laws_FnOrdersChange.c9⟩ ⟨laws_FnOrdersChange.d10⟩
theorem laws_FnOrdersChange.d6 : laws_FnOrdersChange.c4.2.1 := laws_FnOrdersChange.c6.2.2 ⟨laws_FnOrdersChange.c7⟩ ⟨laws_FnOrdersChange.d8⟩
theorem laws_FnOrdersChange.d4 : laws_FnOrdersChange.c1.2.1 := laws_FnOrdersChange.c4.2.2 ⟨laws_FnOrdersChange.c5⟩ ⟨laws_FnOrdersChange.d6⟩
theorem laws_FnOrdersChange.d2 : laws_FnOrdersChange.c1.1 := laws_FnOrdersChange.c2.2 ⟨laws_FnOrdersChange.c3⟩
theorem laws_FnOrdersChange.d1 : laws_FnOrdersChange.c0.1 := laws_FnOrdersChange.c1.2.2 ⟨laws_FnOrdersChange.d2⟩ ⟨laws_FnOrdersChange.d4⟩
theorem laws_FnOrdersChange.calls (k : Nat) (A0 : Option Addr) (c0 : Nat) (l0 : List Int) (A1 : Option Addr) (c1 : Nat) (l1 : List Int) (r : Bool) (w : World) (hr0 : Kd.C (Kd.int .u8) w A0 l0.length l0) (hc0 : l0.length ≤ c0) (hr1 : Kd.C (Kd.int .u8) w A1 l1.length l1) (hc1 : l1.length ≤ c1) (h : laws_FnOrdersChange.f k l0 l1 = some r) :
  Calls Try.prog 3 #[.slice A0 l0.length c0, .slice A1 l1.length c1] w fun e w' => e = .returned (.bool r) ∧ Below w.heap.size w w' := laws_FnOrdersChange.c0.2 ⟨laws_FnOrdersChange.d1⟩ k A0 c0 l0 A1 c1 l1 r w hr0 hc0 hr1 hc1 h
theorem laws_FnOrdersChange.walk (P : laws_FnOrdersChange.Pure) (a0 : Option Addr) (len0 cap0 : Nat) (z0 : List Int) (a1 : Option Addr) (len1 cap1 : Nat) (z1 : List Int) (w : World) (w0 : (a0 = none ∧ len0 = 0 ∧ cap0 = 0 ∧ z0 = []) ∨ ∃ x, a0 = some x ∧ len0 ≤ cap0 ∧ cap0 ≤ maxLen ∧ z0.length = cap0 ∧ (∀ i, i < z0.length → w.cell? (x.add i) = some (.int .u8 (z0.getD i 0))) ∧ ∀ n ∈ z0, (Lit.int .u8 n).wf = true) (y0 : len0 * 1 ≤ 140737488351232) (w1 : (a1 = none ∧ len1 = 0 ∧ cap1 = 0 ∧ z1 = []) ∨ ∃ x, a1 = some x ∧ len1 ≤ cap1 ∧ cap1 ≤ maxLen ∧ z1.length = cap1 ∧ (∀ i, i < z1.length → w.cell? (x.add i) = some (.int .u8 (z1.getD i 0))) ∧ ∀ n ∈ z1, (Lit.int .u8 n).wf = true) (y1 : len1 * 1 ≤ 140737488351232) :
  Calls Try.prog 3 #[.slice a0 len0 cap0, .slice a1 len1 cap1] w fun e w' => e = .returned (.bool true) ∧ Below w.heap.size w w' := by
 obtain ⟨l0, rfl, hr0, hm0, hw0, hc0⟩ := ReadsInt.ofRowC w0
 obtain ⟨l1, rfl, hr1, hm1, hw1, hc1⟩ := ReadsInt.ofRowC w1
 obtain ⟨k, h⟩ := P l0 l1 hm0 y0 hw0 hm1 y1 hw1
 refine (laws_FnOrdersChange.calls k _ _ l0 _ _ l1 true w (Kd.C_of_reads (d := (0 : Int)) (h1 := fun _ => rfl) hr0) hc0 (Kd.C_of_reads (d := (0 : Int)) (h1 := fun _ => rfl) hr1) hc1 h).mono ?_
 rintro e w' ⟨rfl, hd⟩
 exact ⟨rfl, hd⟩
end Go.Proofs.Ytcgilnmljflebaa.A
