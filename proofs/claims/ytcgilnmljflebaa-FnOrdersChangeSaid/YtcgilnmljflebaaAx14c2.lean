-- written by a program of this session's over the kit's print (xp.py)
import Derived.Test.YtcgilnmljflebaaAx0
import Derived.Test.YtcgilnmljflebaaAx1
import Derived.Test.YtcgilnmljflebaaAx2
import Derived.Test.YtcgilnmljflebaaAx3
import Derived.Test.YtcgilnmljflebaaAx4
import Derived.Test.YtcgilnmljflebaaAx5
import Derived.Test.YtcgilnmljflebaaAx6
import Derived.Test.YtcgilnmljflebaaAx7
import Derived.Test.YtcgilnmljflebaaAx8
import Derived.Test.YtcgilnmljflebaaAx9
import Derived.Test.YtcgilnmljflebaaAx10
import Derived.Test.YtcgilnmljflebaaAx11
import Derived.Test.YtcgilnmljflebaaAx12
import Derived.Test.YtcgilnmljflebaaAx13
import Derived.Test.YtcgilnmljflebaaAx14
import Derived.Test.YtcgilnmljflebaaAx14c1
-- halved
namespace Go.Proofs.Ytcgilnmljflebaa.A
-- slim
set_option maxHeartbeats 8000000
set_option maxRecDepth 100000
open Go.RowKit Go.Proofs.YtcgilnmljflebaaW.PrintWords Go.Proofs.YtcgilnmljflebaaW.PrintLast Go.Proofs.YtcgilnmljflebaaW.PrintMore
attribute [local go_sem] max2_int min2_int max_two min_two max_three min_three max_four min_four   -- for this text's walks alone
set_option linter.unusedVariables false
set_option linter.unusedSimpArgs false
def laws_FnOrdersChange.c11 : PSigma fun P0_ : Prop => Hole P0_ → laws_FnOrdersChange.c10.1 := by
 refine' ⟨_, fun HP0_ => _⟩
 rotate_left 1
 intro k A0 c0 l0 A1 c1 l1 r w HR0 HC0 HR1 HC1 A3 t530 t531 A5 t532 t533 A6 t536 t537 A7 _ _ _ w9 w10 v534 w11 v538 HO535 HO539 _ _ _ HO_7 _ kj7 HJ7 _ _ kj16 HJ16 t549 t550 t551 A35 t552 t553 A36 t556 t557 A37 t560 t561 A38 t562 t563 A39 t564 t565 A40 t568 t569 A41 t570 t571 A42 t572 t573 A43 t574 t575 A44 w46 w47 v554 w48 v558 _ _ w49 Ao50 co50 _ w51 HO555 HO559 HO567 _ _ _ _ _ HO_18 _ _ kj44 HJ44 _ _ HO_27 _ kj92 HJ92 f_ wc kj124 HJ124 t595 t596 A151 t597 t598 A152 t601 t602 A153 t605 t606 A154 t607 t608 A155 t609 A156 t612 t613 A157 t614 t615 A158 t616 t617 A159 t620 t621 A160 t624 t625 A161 t628 t629 A162 t634 t635 A163 t636 t637 A164 HC165 w166 w167 v599 w168 v603 w169 w170 w171 Ao172 co172 w173 _ w174 Ao175 co175 w176 v622 w177 v626 w178 HB Ao179 co179 Ao180 co180 HO600 HO604 HO611 HO619 HO623 HO627 HO631 HO633 _ nd _ _ _ _ J_ K_ hJ_ hK_
 have H := HC165.out
 clear HC165
 by_cases c181 : (t598 != t602) = true
 ·rw [if_pos c181] at H
  have c181b0 : (t598 != t602) = true := c181
  (try (have c181b1 : decide (t598 = t602) = false := by simpa using c181))
  (try (have c181b2 : (t598 == t602) = false := by simpa using c181))
  (try (have c181b3 : ¬ (t598 = t602) := by simpa using c181))
  clear c181
  (first | rw [c181b0] | (simp only [i64_w, i32_w]; rw [c181b0]) | skip)
  have H' := Aside0.mk H
  clear H
  go_wp2
  refine Met.intro (hJ_ _ _ ?mg_ ?rel)
  case mg_ => kernel_rfl
  case rel => exact ⟨_, (true), (by rfl), H', ⟨by have := HJ7.out; have := HJ16.out; have := HJ44.out; have := HJ92.out; have := HJ124.out; omega⟩, ⟨by apply Kd.R_drewN; exact Kd.R_mono HO600.out (fun _ hk => ⟨hk.1.1.1.1.1.2, ⟨hk.1.1.1.1.2, ⟨hk.1.1.1.2, ⟨hk.1.2, hk.2⟩⟩⟩⟩)⟩, ⟨by apply Kd.R_drewN; exact Kd.R_mono HO611.out (fun _ hk => ⟨hk.1.1.1.1.1.1.2, ⟨hk.1.1.1.1.2, ⟨hk.1.1.1.2, ⟨hk.1.2, hk.2⟩⟩⟩⟩)⟩, ⟨by apply Kd.R_drewN; exact Kd.R_mono HO619.out (fun _ hk => ⟨hk.1.1.1.1.1.1.2, ⟨hk.1.1.1.1.2, ⟨hk.1.1.1.2, ⟨hk.1.2, hk.2⟩⟩⟩⟩)⟩, ⟨by apply Kd.R_drewN; exact Kd.R_mono HO623.out (fun _ hk => ⟨hk.1.1.1.1.1.1.2, ⟨hk.1.1.1.1.2, ⟨hk.1.1.1.2, ⟨hk.1.2, hk.2⟩⟩⟩⟩)⟩, ⟨by apply Kd.R_drewN; exact Kd.R_mono HO631.out (fun _ hk => ⟨hk.1.1.1.1.1.2, ⟨hk.1.1.1.2, ⟨hk.1.1.2, ⟨hk.1.2, hk.1.1.1.1.1.1⟩⟩⟩⟩)⟩, ⟨by apply Kd.R_drewN; exact Kd.R_mono HO633.out (fun _ hk => ⟨hk.1.1.1.1.1.2, ⟨hk.1.1.1.2, ⟨hk.1.1.2, ⟨hk.1.2, hk.1.1.1.1.1.1⟩⟩⟩⟩)⟩, ⟨by (apply pw_below_drewN; exact HB.out)⟩⟩
 ·rw [if_neg c181] at H
  have c181b0 : (t598 != t602) = false := by simpa using c181
  (try (have c181b1 : decide (t598 = t602) = true := by simpa using c181))
  (try (have c181b2 : (t598 == t602) = true := by simpa using c181))
  clear c181
  (try (have c181e : t598 = t602 := by first | simpa using c181b0 | (simpa using (bne_eq_false_iff_eq.mp c181b0).symm)); (subst c181e))
  (first | rw [c181b0] | (simp only [i64_w, i32_w]; rw [c181b0]) | skip)
  replace H := Option.bind_eq_some_iff.mp H
  obtain ⟨t638, A1820, H⟩ := H
  try dsimp +instances only at H
  replace H := H
  have A182 := Aside0.mk A1820
  clear A1820
  by_cases c183 : t638 = true
  ·subst c183
   rw [if_pos rfl] at H
   have H1 := H
   clear H
   have H := H1
   clear H1
   by_cases c184 : (t606 != t608) = true
   ·rw [if_pos c184] at H
    have c184b0 : (t606 != t608) = true := c184
    (try (have c184b1 : decide (t606 = t608) = false := by simpa using c184))
    (try (have c184b2 : (t606 == t608) = false := by simpa using c184))
    (try (have c184b3 : ¬ (t606 = t608) := by simpa using c184))
    clear c184
    have H' := Aside0.mk H
    clear H
    obtain ⟨Ao185, co185, eo185⟩ := Kd.R_slice HO600.out
    subst eo185
    obtain ⟨Ao186, co186, eo186⟩ := Kd.R_slice HO604.out
    subst eo186
    go_wp2_with (first | (go_at_call 8; (with_reducible refine (laws_xSame.calls kj124 _ _ t597 _ _ t601 true _ ?side1 ?side2 ?side3 ?side4 A182.out).mono ?_); (case side1 => exact (Kd.R_reads' HO600.out).2.2); (case side2 => exact (Kd.R_reads' HO600.out).2.1); (case side3 => exact (Kd.R_reads' HO604.out).2.2); (case side4 => exact (Kd.R_reads' HO604.out).2.1); rintro e w' ⟨rfl, ⟨nd, rfl⟩⟩; (try go_simp)))
    refine Met.intro (hJ_ _ _ ?mg_ ?rel)
    case mg_ => kernel_rfl
    case rel => exact ⟨_, (true), (by rfl), H', ⟨by have := HJ7.out; have := HJ16.out; have := HJ44.out; have := HJ92.out; have := HJ124.out; omega⟩, ⟨by apply Kd.R_drewN; exact Kd.R_mono HO600.out (fun _ hk => ⟨hk.1.1.1.1.1.2, ⟨hk.1.1.1.1.2, ⟨hk.1.1.1.2, ⟨hk.1.2, hk.2⟩⟩⟩⟩)⟩, ⟨by apply Kd.R_drewN; exact Kd.R_mono HO611.out (fun _ hk => ⟨hk.1.1.1.1.1.1.2, ⟨hk.1.1.1.1.2, ⟨hk.1.1.1.2, ⟨hk.1.2, hk.2⟩⟩⟩⟩)⟩, ⟨by apply Kd.R_drewN; exact Kd.R_mono HO619.out (fun _ hk => ⟨hk.1.1.1.1.1.1.2, ⟨hk.1.1.1.1.2, ⟨hk.1.1.1.2, ⟨hk.1.2, hk.2⟩⟩⟩⟩)⟩, ⟨by apply Kd.R_drewN; exact Kd.R_mono HO623.out (fun _ hk => ⟨hk.1.1.1.1.1.1.2, ⟨hk.1.1.1.1.2, ⟨hk.1.1.1.2, ⟨hk.1.2, hk.2⟩⟩⟩⟩)⟩, ⟨by apply Kd.R_drewN; exact Kd.R_mono HO631.out (fun _ hk => ⟨hk.1.1.1.1.1.2, ⟨hk.1.1.1.2, ⟨hk.1.1.2, ⟨hk.1.2, hk.1.1.1.1.1.1⟩⟩⟩⟩)⟩, ⟨by apply Kd.R_drewN; exact Kd.R_mono HO633.out (fun _ hk => ⟨hk.1.1.1.1.1.2, ⟨hk.1.1.1.2, ⟨hk.1.1.2, ⟨hk.1.2, hk.1.1.1.1.1.1⟩⟩⟩⟩)⟩, ⟨by (apply pw_below_drewN; exact HB.out)⟩⟩
   ·rw [if_neg c184] at H
    have c184b0 : (t606 != t608) = false := by simpa using c184
    (try (have c184b1 : decide (t606 = t608) = true := by simpa using c184))
    (try (have c184b2 : (t606 == t608) = true := by simpa using c184))
    clear c184
    (try (have c184e : t606 = t608 := by first | simpa using c184b0 | (simpa using (bne_eq_false_iff_eq.mp c184b0).symm)); (subst c184e))
    by_cases c187 : t605 = t607
    ·rw [if_pos c187] at H
     have c187b0 : (t605 == t607) = true := beq_iff_eq.mpr c187
     have c187b1 : (t605 != t607) = false := bne_eq_false_iff_eq.mpr c187
     clear c187
     by_cases c188 : (t613 != t615) = true
     ·rw [if_pos c188] at H
      have c188b0 : (t613 != t615) = true := c188
      (try (have c188b1 : decide (t613 = t615) = false := by simpa using c188))
      (try (have c188b2 : (t613 == t615) = false := by simpa using c188))
      (try (have c188b3 : ¬ (t613 = t615) := by simpa using c188))
      clear c188
      have H' := Aside0.mk H
      clear H
      obtain ⟨Ao189, co189, eo189⟩ := Kd.R_slice HO600.out
      subst eo189
      obtain ⟨Ao190, co190, eo190⟩ := Kd.R_slice HO604.out
      subst eo190
      go_wp2_with (first | (go_at_call 8; (with_reducible refine (laws_xSame.calls kj124 _ _ t597 _ _ t601 true _ ?side1 ?side2 ?side3 ?side4 A182.out).mono ?_); (case side1 => exact (Kd.R_reads' HO600.out).2.2); (case side2 => exact (Kd.R_reads' HO600.out).2.1); (case side3 => exact (Kd.R_reads' HO604.out).2.2); (case side4 => exact (Kd.R_reads' HO604.out).2.1); rintro e w' ⟨rfl, ⟨nd, rfl⟩⟩; (try go_simp)))
      refine Met.intro (hJ_ _ _ ?mg_ ?rel)
      case mg_ => kernel_rfl
      case rel => exact ⟨_, (true), (by rfl), H', ⟨by have := HJ7.out; have := HJ16.out; have := HJ44.out; have := HJ92.out; have := HJ124.out; omega⟩, ⟨by apply Kd.R_drewN; exact Kd.R_mono HO600.out (fun _ hk => ⟨hk.1.1.1.1.1.2, ⟨hk.1.1.1.1.2, ⟨hk.1.1.1.2, ⟨hk.1.2, hk.2⟩⟩⟩⟩)⟩, ⟨by apply Kd.R_drewN; exact Kd.R_mono HO611.out (fun _ hk => ⟨hk.1.1.1.1.1.1.2, ⟨hk.1.1.1.1.2, ⟨hk.1.1.1.2, ⟨hk.1.2, hk.2⟩⟩⟩⟩)⟩, ⟨by apply Kd.R_drewN; exact Kd.R_mono HO619.out (fun _ hk => ⟨hk.1.1.1.1.1.1.2, ⟨hk.1.1.1.1.2, ⟨hk.1.1.1.2, ⟨hk.1.2, hk.2⟩⟩⟩⟩)⟩, ⟨by apply Kd.R_drewN; exact Kd.R_mono HO623.out (fun _ hk => ⟨hk.1.1.1.1.1.1.2, ⟨hk.1.1.1.1.2, ⟨hk.1.1.1.2, ⟨hk.1.2, hk.2⟩⟩⟩⟩)⟩, ⟨by apply Kd.R_drewN; exact Kd.R_mono HO631.out (fun _ hk => ⟨hk.1.1.1.1.1.2, ⟨hk.1.1.1.2, ⟨hk.1.1.2, ⟨hk.1.2, hk.1.1.1.1.1.1⟩⟩⟩⟩)⟩, ⟨by apply Kd.R_drewN; exact Kd.R_mono HO633.out (fun _ hk => ⟨hk.1.1.1.1.1.2, ⟨hk.1.1.1.2, ⟨hk.1.1.2, ⟨hk.1.2, hk.1.1.1.1.1.1⟩⟩⟩⟩)⟩, ⟨by (apply pw_below_drewN; exact HB.out)⟩⟩
     ·rw [if_neg c188] at H
      have c188b0 : (t613 != t615) = false := by simpa using c188
      (try (have c188b1 : decide (t613 = t615) = true := by simpa using c188))
      (try (have c188b2 : (t613 == t615) = true := by simpa using c188))
      clear c188
      (try (have c188e : t613 = t615 := by first | simpa using c188b0 | (simpa using (bne_eq_false_iff_eq.mp c188b0).symm)); (subst c188e))
      by_cases c191 : t612 = t614
      ·rw [if_pos c191] at H
       have c191b0 : (t612 == t614) = true := beq_iff_eq.mpr c191
       have c191b1 : (t612 != t614) = false := bne_eq_false_iff_eq.mpr c191
       clear c191
       by_cases c192 : (t621 != t625) = true
       ·rw [if_pos c192] at H
        have c192b0 : (t621 != t625) = true := c192
        (try (have c192b1 : decide (t621 = t625) = false := by simpa using c192))
        (try (have c192b2 : (t621 == t625) = false := by simpa using c192))
        (try (have c192b3 : ¬ (t621 = t625) := by simpa using c192))
        clear c192
        have H' := Aside0.mk H
        clear H
        obtain ⟨Ao193, co193, eo193⟩ := Kd.R_slice HO600.out
        subst eo193
        obtain ⟨Ao194, co194, eo194⟩ := Kd.R_slice HO604.out
        subst eo194
        go_wp2_with (first | (go_at_call 8; (with_reducible refine (laws_xSame.calls kj124 _ _ t597 _ _ t601 true _ ?side1 ?side2 ?side3 ?side4 A182.out).mono ?_); (case side1 => exact (Kd.R_reads' HO600.out).2.2); (case side2 => exact (Kd.R_reads' HO600.out).2.1); (case side3 => exact (Kd.R_reads' HO604.out).2.2); (case side4 => exact (Kd.R_reads' HO604.out).2.1); rintro e w' ⟨rfl, ⟨nd, rfl⟩⟩; (try go_simp)))
        refine Met.intro (hJ_ _ _ ?mg_ ?rel)
        case mg_ => kernel_rfl
        case rel => exact ⟨_, (true), (by rfl), H', ⟨by have := HJ7.out; have := HJ16.out; have := HJ44.out; have := HJ92.out; have := HJ124.out; omega⟩, ⟨by apply Kd.R_drewN; exact Kd.R_mono HO600.out (fun _ hk => ⟨hk.1.1.1.1.1.2, ⟨hk.1.1.1.1.2, ⟨hk.1.1.1.2, ⟨hk.1.2, hk.2⟩⟩⟩⟩)⟩, ⟨by apply Kd.R_drewN; exact Kd.R_mono HO611.out (fun _ hk => ⟨hk.1.1.1.1.1.1.2, ⟨hk.1.1.1.1.2, ⟨hk.1.1.1.2, ⟨hk.1.2, hk.2⟩⟩⟩⟩)⟩, ⟨by apply Kd.R_drewN; exact Kd.R_mono HO619.out (fun _ hk => ⟨hk.1.1.1.1.1.1.2, ⟨hk.1.1.1.1.2, ⟨hk.1.1.1.2, ⟨hk.1.2, hk.2⟩⟩⟩⟩)⟩, ⟨by apply Kd.R_drewN; exact Kd.R_mono HO623.out (fun _ hk => ⟨hk.1.1.1.1.1.1.2, ⟨hk.1.1.1.1.2, ⟨hk.1.1.1.2, ⟨hk.1.2, hk.2⟩⟩⟩⟩)⟩, ⟨by apply Kd.R_drewN; exact Kd.R_mono HO631.out (fun _ hk => ⟨hk.1.1.1.1.1.2, ⟨hk.1.1.1.2, ⟨hk.1.1.2, ⟨hk.1.2, hk.1.1.1.1.1.1⟩⟩⟩⟩)⟩, ⟨by apply Kd.R_drewN; exact Kd.R_mono HO633.out (fun _ hk => ⟨hk.1.1.1.1.1.2, ⟨hk.1.1.1.2, ⟨hk.1.1.2, ⟨hk.1.2, hk.1.1.1.1.1.1⟩⟩⟩⟩)⟩, ⟨by (apply pw_below_drewN; exact HB.out)⟩⟩
       ·
        repeat revert ‹_›
        intro HP0_
        exact HP0_.out
      ·rw [if_neg c191] at H
       have c191b0 : (t612 == t614) = false := beq_eq_false_iff_ne.mpr c191
       have c191b1 : (t612 != t614) = true := bne_iff_ne.mpr c191
       have H' := Aside0.mk H
       clear H
       obtain ⟨Ao220, co220, eo220⟩ := Kd.R_slice HO600.out
       subst eo220
       obtain ⟨Ao221, co221, eo221⟩ := Kd.R_slice HO604.out
       subst eo221
       go_wp2_with (first | (go_at_call 8; (with_reducible refine (laws_xSame.calls kj124 _ _ t597 _ _ t601 true _ ?side1 ?side2 ?side3 ?side4 A182.out).mono ?_); (case side1 => exact (Kd.R_reads' HO600.out).2.2); (case side2 => exact (Kd.R_reads' HO600.out).2.1); (case side3 => exact (Kd.R_reads' HO604.out).2.2); (case side4 => exact (Kd.R_reads' HO604.out).2.1); rintro e w' ⟨rfl, ⟨nd, rfl⟩⟩; (try go_simp)))
       refine Met.intro (hJ_ _ _ ?mg_ ?rel)
       case mg_ => kernel_rfl
       case rel => exact ⟨_, (true), (by rfl), H', ⟨by have := HJ7.out; have := HJ16.out; have := HJ44.out; have := HJ92.out; have := HJ124.out; omega⟩, ⟨by apply Kd.R_drewN; exact Kd.R_mono HO600.out (fun _ hk => ⟨hk.1.1.1.1.1.2, ⟨hk.1.1.1.1.2, ⟨hk.1.1.1.2, ⟨hk.1.2, hk.2⟩⟩⟩⟩)⟩, ⟨by apply Kd.R_drewN; exact Kd.R_mono HO611.out (fun _ hk => ⟨hk.1.1.1.1.1.1.2, ⟨hk.1.1.1.1.2, ⟨hk.1.1.1.2, ⟨hk.1.2, hk.2⟩⟩⟩⟩)⟩, ⟨by apply Kd.R_drewN; exact Kd.R_mono HO619.out (fun _ hk => ⟨hk.1.1.1.1.1.1.2, ⟨hk.1.1.1.1.2, ⟨hk.1.1.1.2, ⟨hk.1.2, hk.2⟩⟩⟩⟩)⟩, ⟨by apply Kd.R_drewN; exact Kd.R_mono HO623.out (fun _ hk => ⟨hk.1.1.1.1.1.1.2, ⟨hk.1.1.1.1.2, ⟨hk.1.1.1.2, ⟨hk.1.2, hk.2⟩⟩⟩⟩)⟩, ⟨by apply Kd.R_drewN; exact Kd.R_mono HO631.out (fun _ hk => ⟨hk.1.1.1.1.1.2, ⟨hk.1.1.1.2, ⟨hk.1.1.2, ⟨hk.1.2, hk.1.1.1.1.1.1⟩⟩⟩⟩)⟩, ⟨by apply Kd.R_drewN; exact Kd.R_mono HO633.out (fun _ hk => ⟨hk.1.1.1.1.1.2, ⟨hk.1.1.1.2, ⟨hk.1.1.2, ⟨hk.1.2, hk.1.1.1.1.1.1⟩⟩⟩⟩)⟩, ⟨by (apply pw_below_drewN; exact HB.out)⟩⟩
    ·rw [if_neg c187] at H
     have c187b0 : (t605 == t607) = false := beq_eq_false_iff_ne.mpr c187
     have c187b1 : (t605 != t607) = true := bne_iff_ne.mpr c187
     have H' := Aside0.mk H
     clear H
     obtain ⟨Ao222, co222, eo222⟩ := Kd.R_slice HO600.out
     subst eo222
     obtain ⟨Ao223, co223, eo223⟩ := Kd.R_slice HO604.out
     subst eo223
     go_wp2_with (first | (go_at_call 8; (with_reducible refine (laws_xSame.calls kj124 _ _ t597 _ _ t601 true _ ?side1 ?side2 ?side3 ?side4 A182.out).mono ?_); (case side1 => exact (Kd.R_reads' HO600.out).2.2); (case side2 => exact (Kd.R_reads' HO600.out).2.1); (case side3 => exact (Kd.R_reads' HO604.out).2.2); (case side4 => exact (Kd.R_reads' HO604.out).2.1); rintro e w' ⟨rfl, ⟨nd, rfl⟩⟩; (try go_simp)))
     refine Met.intro (hJ_ _ _ ?mg_ ?rel)
     case mg_ => kernel_rfl
     case rel => exact ⟨_, (true), (by rfl), H', ⟨by have := HJ7.out; have := HJ16.out; have := HJ44.out; have := HJ92.out; have := HJ124.out; omega⟩, ⟨by apply Kd.R_drewN; exact Kd.R_mono HO600.out (fun _ hk => ⟨hk.1.1.1.1.1.2, ⟨hk.1.1.1.1.2, ⟨hk.1.1.1.2, ⟨hk.1.2, hk.2⟩⟩⟩⟩)⟩, ⟨by apply Kd.R_drewN; exact Kd.R_mono HO611.out (fun _ hk => ⟨hk.1.1.1.1.1.1.2, ⟨hk.1.1.1.1.2, ⟨hk.1.1.1.2, ⟨hk.1.2, hk.2⟩⟩⟩⟩)⟩, ⟨by apply Kd.R_drewN; exact Kd.R_mono HO619.out (fun _ hk => ⟨hk.1.1.1.1.1.1.2, ⟨hk.1.1.1.1.2, ⟨hk.1.1.1.2, ⟨hk.1.2, hk.2⟩⟩⟩⟩)⟩, ⟨by apply Kd.R_drewN; exact Kd.R_mono HO623.out (fun _ hk => ⟨hk.1.1.1.1.1.1.2, ⟨hk.1.1.1.1.2, ⟨hk.1.1.1.2, ⟨hk.1.2, hk.2⟩⟩⟩⟩)⟩, ⟨by apply Kd.R_drewN; exact Kd.R_mono HO631.out (fun _ hk => ⟨hk.1.1.1.1.1.2, ⟨hk.1.1.1.2, ⟨hk.1.1.2, ⟨hk.1.2, hk.1.1.1.1.1.1⟩⟩⟩⟩)⟩, ⟨by apply Kd.R_drewN; exact Kd.R_mono HO633.out (fun _ hk => ⟨hk.1.1.1.1.1.2, ⟨hk.1.1.1.2, ⟨hk.1.1.2, ⟨hk.1.2, hk.1.1.1.1.1.1⟩⟩⟩⟩)⟩, ⟨by (apply pw_below_drewN; exact HB.out)⟩⟩
  ·replace c183 := Bool.eq_false_iff.mpr c183
   subst c183
   rw [if_neg (show ¬ (false = true) by decide)] at H
   have H1 := H
   clear H
   have H := H1
   clear H1
   have H' := Aside0.mk H
   clear H
   obtain ⟨Ao224, co224, eo224⟩ := Kd.R_slice HO600.out
   subst eo224
   obtain ⟨Ao225, co225, eo225⟩ := Kd.R_slice HO604.out
   subst eo225
   go_wp2_with (first | (go_at_call 8; (with_reducible refine (laws_xSame.calls kj124 _ _ t597 _ _ t601 false _ ?side1 ?side2 ?side3 ?side4 A182.out).mono ?_); (case side1 => exact (Kd.R_reads' HO600.out).2.2); (case side2 => exact (Kd.R_reads' HO600.out).2.1); (case side3 => exact (Kd.R_reads' HO604.out).2.2); (case side4 => exact (Kd.R_reads' HO604.out).2.1); rintro e w' ⟨rfl, ⟨nd, rfl⟩⟩; (try go_simp)))
   refine Met.intro (hJ_ _ _ ?mg_ ?rel)
   case mg_ => kernel_rfl
   case rel => exact ⟨_, (true), (by rfl), H', ⟨by have := HJ7.out; have := HJ16.out; have := HJ44.out; have := HJ92.out; have := HJ124.out; omega⟩, ⟨by apply Kd.R_drewN; exact Kd.R_mono HO600.out (fun _ hk => ⟨hk.1.1.1.1.1.2, ⟨hk.1.1.1.1.2, ⟨hk.1.1.1.2, ⟨hk.1.2, hk.2⟩⟩⟩⟩)⟩, ⟨by apply Kd.R_drewN; exact Kd.R_mono HO611.out (fun _ hk => ⟨hk.1.1.1.1.1.1.2, ⟨hk.1.1.1.1.2, ⟨hk.1.1.1.2, ⟨hk.1.2, hk.2⟩⟩⟩⟩)⟩, ⟨by apply Kd.R_drewN; exact Kd.R_mono HO619.out (fun _ hk => ⟨hk.1.1.1.1.1.1.2, ⟨hk.1.1.1.1.2, ⟨hk.1.1.1.2, ⟨hk.1.2, hk.2⟩⟩⟩⟩)⟩, ⟨by apply Kd.R_drewN; exact Kd.R_mono HO623.out (fun _ hk => ⟨hk.1.1.1.1.1.1.2, ⟨hk.1.1.1.1.2, ⟨hk.1.1.1.2, ⟨hk.1.2, hk.2⟩⟩⟩⟩)⟩, ⟨by apply Kd.R_drewN; exact Kd.R_mono HO631.out (fun _ hk => ⟨hk.1.1.1.1.1.2, ⟨hk.1.1.1.2, ⟨hk.1.1.2, ⟨hk.1.2, hk.1.1.1.1.1.1⟩⟩⟩⟩)⟩, ⟨by apply Kd.R_drewN; exact Kd.R_mono HO633.out (fun _ hk => ⟨hk.1.1.1.1.1.2, ⟨hk.1.1.1.2, ⟨hk.1.1.2, ⟨hk.1.2, hk.1.1.1.1.1.1⟩⟩⟩⟩)⟩, ⟨by (apply pw_below_drewN; exact HB.out)⟩⟩
theorem laws_FnOrdersChange.c12 : laws_FnOrdersChange.c11.1 := by
 intro k A0 c0 l0 A1 c1 l1 r w HR0 HC0 HR1 HC1 A3 t530 t531 A5 t532 t533 A6 t536 t537 A7 _ _ _ w9 w10 v534 w11 v538 HO535 HO539 _ _ _ HO_7 _ kj7 HJ7 _ _ kj16 HJ16 t549 t550 t551 A35 t552 t553 A36 t556 t557 A37 t560 t561 A38 t562 t563 A39 t564 t565 A40 t568 t569 A41 t570 t571 A42 t572 t573 A43 t574 t575 A44 w46 w47 v554 w48 v558 _ _ w49 Ao50 co50 _ w51 HO555 HO559 HO567 _ _ _ _ _ HO_18 _ _ kj44 HJ44 _ _ HO_27 _ kj92 HJ92 f_ wc kj124 HJ124 t595 t596 A151 t597 t598 A152 t601 t605 t606 A154 t607 t609 A156 t612 t613 A157 t614 t616 t617 A159 t620 t621 A160 t624 t625 A161 t628 t629 A162 t634 t635 A163 t636 t637 A164 w166 w167 v599 w168 v603 w169 w170 w171 Ao172 co172 w173 _ w174 Ao175 co175 w176 v622 w177 v626 w178 HB Ao179 co179 Ao180 co180 HO600 HO604 HO611 HO619 HO623 HO627 HO631 HO633 _ nd _ _ _ _ J_ K_ hK_ A153 c181b0 c181b1 c181b2 A182 H A155 c184b0 c184b1 c184b2 c187b0 c187b1 A158 hJ_ c188b0 c188b1 c188b2 c191b0 c191b1 c192
 rw [if_neg c192] at H
 have c192b0 : (t621 != t625) = false := by simpa using c192
 (try (have c192b1 : decide (t621 = t625) = true := by simpa using c192))
 (try (have c192b2 : (t621 == t625) = true := by simpa using c192))
 clear c192
 (try (have c192e : t621 = t625 := by first | simpa using c192b0 | (simpa using (bne_eq_false_iff_eq.mp c192b0).symm)); (subst c192e))
 replace H := Option.bind_eq_some_iff.mp H
 obtain ⟨t639, A1950, H⟩ := H
 try dsimp +instances only at H
 replace H := H
 have A195 := Aside0.mk A1950
 clear A1950
 by_cases c196 : t639 = true
 ·subst c196
  rw [if_pos rfl] at H
  have H1 := H
  clear H
  have H := H1
  clear H1
  by_cases c197 : (t635 != t637) = true
  ·rw [if_pos c197] at H
   have c197b0 : (t635 != t637) = true := c197
   (try (have c197b1 : decide (t635 = t637) = false := by simpa using c197))
   (try (have c197b2 : (t635 == t637) = false := by simpa using c197))
   (try (have c197b3 : ¬ (t635 = t637) := by simpa using c197))
   clear c197
   have H' := Aside0.mk H
   clear H
   obtain ⟨Ao198, co198, eo198⟩ := Kd.R_slice HO600.out
   subst eo198
   obtain ⟨Ao199, co199, eo199⟩ := Kd.R_slice HO604.out
   subst eo199
   go_wp2_with (first | (go_at_call 8; (with_reducible refine (laws_xSame.calls kj124 _ _ t597 _ _ t601 true _ ?side1 ?side2 ?side3 ?side4 A182.out).mono ?_); (case side1 => exact (Kd.R_reads' HO600.out).2.2); (case side2 => exact (Kd.R_reads' HO600.out).2.1); (case side3 => exact (Kd.R_reads' HO604.out).2.2); (case side4 => exact (Kd.R_reads' HO604.out).2.1); rintro e w' ⟨rfl, ⟨nd, rfl⟩⟩; obtain ⟨Ao200, co200, eo200⟩ := Kd.R_slice HO623.out; subst eo200; obtain ⟨Ao201, co201, eo201⟩ := Kd.R_slice HO627.out; subst eo201) | (go_at_call 8; (with_reducible refine (laws_xSame.calls kj124 _ _ t620 _ _ t624 true _ ?side1 ?side2 ?side3 ?side4 A195.out).mono ?_); (case side1 => exact (Kd.R_reads' HO623.out).2.2); (case side2 => exact (Kd.R_reads' HO623.out).2.1); (case side3 => exact (Kd.R_reads' HO627.out).2.2); (case side4 => exact (Kd.R_reads' HO627.out).2.1); rintro e w' ⟨rfl, ⟨nd, rfl⟩⟩))
   refine Met.intro (hJ_ _ _ ?mg_ ?rel)
   case mg_ => kernel_rfl
   case rel => exact ⟨_, (true), (by rfl), H', ⟨by have := HJ7.out; have := HJ16.out; have := HJ44.out; have := HJ92.out; have := HJ124.out; omega⟩, ⟨by apply Kd.R_drewN; exact Kd.R_mono HO600.out (fun _ hk => ⟨hk.1.1.1.1.1.2, ⟨hk.1.1.1.1.2, ⟨hk.1.1.1.2, ⟨hk.1.2, hk.2⟩⟩⟩⟩)⟩, ⟨by apply Kd.R_drewN; exact Kd.R_mono HO611.out (fun _ hk => ⟨hk.1.1.1.1.1.1.2, ⟨hk.1.1.1.1.2, ⟨hk.1.1.1.2, ⟨hk.1.2, hk.2⟩⟩⟩⟩)⟩, ⟨by apply Kd.R_drewN; exact Kd.R_mono HO619.out (fun _ hk => ⟨hk.1.1.1.1.1.1.2, ⟨hk.1.1.1.1.2, ⟨hk.1.1.1.2, ⟨hk.1.2, hk.2⟩⟩⟩⟩)⟩, ⟨by apply Kd.R_drewN; exact Kd.R_mono HO623.out (fun _ hk => ⟨hk.1.1.1.1.1.1.2, ⟨hk.1.1.1.1.2, ⟨hk.1.1.1.2, ⟨hk.1.2, hk.2⟩⟩⟩⟩)⟩, ⟨by apply Kd.R_drewN; exact Kd.R_mono HO631.out (fun _ hk => ⟨hk.1.1.1.1.1.2, ⟨hk.1.1.1.2, ⟨hk.1.1.2, ⟨hk.1.2, hk.1.1.1.1.1.1⟩⟩⟩⟩)⟩, ⟨by apply Kd.R_drewN; exact Kd.R_mono HO633.out (fun _ hk => ⟨hk.1.1.1.1.1.2, ⟨hk.1.1.1.2, ⟨hk.1.1.2, ⟨hk.1.2, hk.1.1.1.1.1.1⟩⟩⟩⟩)⟩, ⟨by (apply pw_below_drewN; exact HB.out)⟩⟩
  ·rw [if_neg c197] at H
   have c197b0 : (t635 != t637) = false := by simpa using c197
   (try (have c197b1 : decide (t635 = t637) = true := by simpa using c197))
   (try (have c197b2 : (t635 == t637) = true := by simpa using c197))
   clear c197
   (try (have c197e : t635 = t637 := by first | simpa using c197b0 | (simpa using (bne_eq_false_iff_eq.mp c197b0).symm)); (subst c197e))
   by_cases c202 : t634 = t636
   ·rw [if_pos c202] at H
    have c202b0 : (t634 == t636) = true := beq_iff_eq.mpr c202
    have c202b1 : (t634 != t636) = false := bne_eq_false_iff_eq.mpr c202
    clear c202
    by_cases c203 : t606 = true
    ·subst c203
     rw [if_pos rfl] at H
     have H1 := H
     clear H
     have H := H1
     clear H1
     have H' := Aside0.mk H
     clear H
     obtain ⟨Ao204, co204, eo204⟩ := Kd.R_slice HO600.out
     subst eo204
     obtain ⟨Ao205, co205, eo205⟩ := Kd.R_slice HO604.out
     subst eo205
     go_wp2_with (first | (go_at_call 8; (with_reducible refine (laws_xSame.calls kj124 _ _ t597 _ _ t601 true _ ?side1 ?side2 ?side3 ?side4 A182.out).mono ?_); (case side1 => exact (Kd.R_reads' HO600.out).2.2); (case side2 => exact (Kd.R_reads' HO600.out).2.1); (case side3 => exact (Kd.R_reads' HO604.out).2.2); (case side4 => exact (Kd.R_reads' HO604.out).2.1); rintro e w' ⟨rfl, ⟨nd, rfl⟩⟩; obtain ⟨Ao206, co206, eo206⟩ := Kd.R_slice HO623.out; subst eo206; obtain ⟨Ao207, co207, eo207⟩ := Kd.R_slice HO627.out; subst eo207) | (go_at_call 8; (with_reducible refine (laws_xSame.calls kj124 _ _ t620 _ _ t624 true _ ?side1 ?side2 ?side3 ?side4 A195.out).mono ?_); (case side1 => exact (Kd.R_reads' HO623.out).2.2); (case side2 => exact (Kd.R_reads' HO623.out).2.1); (case side3 => exact (Kd.R_reads' HO627.out).2.2); (case side4 => exact (Kd.R_reads' HO627.out).2.1); rintro e w' ⟨rfl, ⟨nd, rfl⟩⟩))
     refine Met.intro (hJ_ _ _ ?mg_ ?rel)
     case mg_ => kernel_rfl
     case rel => exact ⟨_, (!t598), (by rfl), H', ⟨by have := HJ7.out; have := HJ16.out; have := HJ44.out; have := HJ92.out; have := HJ124.out; omega⟩, ⟨by apply Kd.R_drewN; exact Kd.R_mono HO600.out (fun _ hk => ⟨hk.1.1.1.1.1.2, ⟨hk.1.1.1.1.2, ⟨hk.1.1.1.2, ⟨hk.1.2, hk.2⟩⟩⟩⟩)⟩, ⟨by apply Kd.R_drewN; exact Kd.R_mono HO611.out (fun _ hk => ⟨hk.1.1.1.1.1.1.2, ⟨hk.1.1.1.1.2, ⟨hk.1.1.1.2, ⟨hk.1.2, hk.2⟩⟩⟩⟩)⟩, ⟨by apply Kd.R_drewN; exact Kd.R_mono HO619.out (fun _ hk => ⟨hk.1.1.1.1.1.1.2, ⟨hk.1.1.1.1.2, ⟨hk.1.1.1.2, ⟨hk.1.2, hk.2⟩⟩⟩⟩)⟩, ⟨by apply Kd.R_drewN; exact Kd.R_mono HO623.out (fun _ hk => ⟨hk.1.1.1.1.1.1.2, ⟨hk.1.1.1.1.2, ⟨hk.1.1.1.2, ⟨hk.1.2, hk.2⟩⟩⟩⟩)⟩, ⟨by apply Kd.R_drewN; exact Kd.R_mono HO631.out (fun _ hk => ⟨hk.1.1.1.1.1.2, ⟨hk.1.1.1.2, ⟨hk.1.1.2, ⟨hk.1.2, hk.1.1.1.1.1.1⟩⟩⟩⟩)⟩, ⟨by apply Kd.R_drewN; exact Kd.R_mono HO633.out (fun _ hk => ⟨hk.1.1.1.1.1.2, ⟨hk.1.1.1.2, ⟨hk.1.1.2, ⟨hk.1.2, hk.1.1.1.1.1.1⟩⟩⟩⟩)⟩, ⟨by (apply pw_below_drewN; exact HB.out)⟩⟩
    ·replace c203 := Bool.eq_false_iff.mpr c203
     subst c203
     rw [if_neg (show ¬ (false = true) by decide)] at H
     have H1 := H
     clear H
     have H := H1
     clear H1
     have H' := Aside0.mk H
     clear H
     obtain ⟨Ao208, co208, eo208⟩ := Kd.R_slice HO600.out
     subst eo208
     obtain ⟨Ao209, co209, eo209⟩ := Kd.R_slice HO604.out
     subst eo209
     go_wp2_with (first | (go_at_call 8; (with_reducible refine (laws_xSame.calls kj124 _ _ t597 _ _ t601 true _ ?side1 ?side2 ?side3 ?side4 A182.out).mono ?_); (case side1 => exact (Kd.R_reads' HO600.out).2.2); (case side2 => exact (Kd.R_reads' HO600.out).2.1); (case side3 => exact (Kd.R_reads' HO604.out).2.2); (case side4 => exact (Kd.R_reads' HO604.out).2.1); rintro e w' ⟨rfl, ⟨nd, rfl⟩⟩; obtain ⟨Ao210, co210, eo210⟩ := Kd.R_slice HO623.out; subst eo210; obtain ⟨Ao211, co211, eo211⟩ := Kd.R_slice HO627.out; subst eo211) | (go_at_call 8; (with_reducible refine (laws_xSame.calls kj124 _ _ t620 _ _ t624 true _ ?side1 ?side2 ?side3 ?side4 A195.out).mono ?_); (case side1 => exact (Kd.R_reads' HO623.out).2.2); (case side2 => exact (Kd.R_reads' HO623.out).2.1); (case side3 => exact (Kd.R_reads' HO627.out).2.2); (case side4 => exact (Kd.R_reads' HO627.out).2.1); rintro e w' ⟨rfl, ⟨nd, rfl⟩⟩))
     refine Met.intro (hJ_ _ _ ?mg_ ?rel)
     case mg_ => kernel_rfl
     case rel => exact ⟨_, (false), (by rfl), H', ⟨by have := HJ7.out; have := HJ16.out; have := HJ44.out; have := HJ92.out; have := HJ124.out; omega⟩, ⟨by apply Kd.R_drewN; exact Kd.R_mono HO600.out (fun _ hk => ⟨hk.1.1.1.1.1.2, ⟨hk.1.1.1.1.2, ⟨hk.1.1.1.2, ⟨hk.1.2, hk.2⟩⟩⟩⟩)⟩, ⟨by apply Kd.R_drewN; exact Kd.R_mono HO611.out (fun _ hk => ⟨hk.1.1.1.1.1.1.2, ⟨hk.1.1.1.1.2, ⟨hk.1.1.1.2, ⟨hk.1.2, hk.2⟩⟩⟩⟩)⟩, ⟨by apply Kd.R_drewN; exact Kd.R_mono HO619.out (fun _ hk => ⟨hk.1.1.1.1.1.1.2, ⟨hk.1.1.1.1.2, ⟨hk.1.1.1.2, ⟨hk.1.2, hk.2⟩⟩⟩⟩)⟩, ⟨by apply Kd.R_drewN; exact Kd.R_mono HO623.out (fun _ hk => ⟨hk.1.1.1.1.1.1.2, ⟨hk.1.1.1.1.2, ⟨hk.1.1.1.2, ⟨hk.1.2, hk.2⟩⟩⟩⟩)⟩, ⟨by apply Kd.R_drewN; exact Kd.R_mono HO631.out (fun _ hk => ⟨hk.1.1.1.1.1.2, ⟨hk.1.1.1.2, ⟨hk.1.1.2, ⟨hk.1.2, hk.1.1.1.1.1.1⟩⟩⟩⟩)⟩, ⟨by apply Kd.R_drewN; exact Kd.R_mono HO633.out (fun _ hk => ⟨hk.1.1.1.1.1.2, ⟨hk.1.1.1.2, ⟨hk.1.1.2, ⟨hk.1.2, hk.1.1.1.1.1.1⟩⟩⟩⟩)⟩, ⟨by (apply pw_below_drewN; exact HB.out)⟩⟩
   ·rw [if_neg c202] at H
    have c202b0 : (t634 == t636) = false := beq_eq_false_iff_ne.mpr c202
    have c202b1 : (t634 != t636) = true := bne_iff_ne.mpr c202
    have H' := Aside0.mk H
    clear H
    obtain ⟨Ao212, co212, eo212⟩ := Kd.R_slice HO600.out
    subst eo212
    obtain ⟨Ao213, co213, eo213⟩ := Kd.R_slice HO604.out
    subst eo213
    go_wp2_with (first | (go_at_call 8; (with_reducible refine (laws_xSame.calls kj124 _ _ t597 _ _ t601 true _ ?side1 ?side2 ?side3 ?side4 A182.out).mono ?_); (case side1 => exact (Kd.R_reads' HO600.out).2.2); (case side2 => exact (Kd.R_reads' HO600.out).2.1); (case side3 => exact (Kd.R_reads' HO604.out).2.2); (case side4 => exact (Kd.R_reads' HO604.out).2.1); rintro e w' ⟨rfl, ⟨nd, rfl⟩⟩; obtain ⟨Ao214, co214, eo214⟩ := Kd.R_slice HO623.out; subst eo214; obtain ⟨Ao215, co215, eo215⟩ := Kd.R_slice HO627.out; subst eo215) | (go_at_call 8; (with_reducible refine (laws_xSame.calls kj124 _ _ t620 _ _ t624 true _ ?side1 ?side2 ?side3 ?side4 A195.out).mono ?_); (case side1 => exact (Kd.R_reads' HO623.out).2.2); (case side2 => exact (Kd.R_reads' HO623.out).2.1); (case side3 => exact (Kd.R_reads' HO627.out).2.2); (case side4 => exact (Kd.R_reads' HO627.out).2.1); rintro e w' ⟨rfl, ⟨nd, rfl⟩⟩))
    refine Met.intro (hJ_ _ _ ?mg_ ?rel)
    case mg_ => kernel_rfl
    case rel => exact ⟨_, (true), (by rfl), H', ⟨by have := HJ7.out; have := HJ16.out; have := HJ44.out; have := HJ92.out; have := HJ124.out; omega⟩, ⟨by apply Kd.R_drewN; exact Kd.R_mono HO600.out (fun _ hk => ⟨hk.1.1.1.1.1.2, ⟨hk.1.1.1.1.2, ⟨hk.1.1.1.2, ⟨hk.1.2, hk.2⟩⟩⟩⟩)⟩, ⟨by apply Kd.R_drewN; exact Kd.R_mono HO611.out (fun _ hk => ⟨hk.1.1.1.1.1.1.2, ⟨hk.1.1.1.1.2, ⟨hk.1.1.1.2, ⟨hk.1.2, hk.2⟩⟩⟩⟩)⟩, ⟨by apply Kd.R_drewN; exact Kd.R_mono HO619.out (fun _ hk => ⟨hk.1.1.1.1.1.1.2, ⟨hk.1.1.1.1.2, ⟨hk.1.1.1.2, ⟨hk.1.2, hk.2⟩⟩⟩⟩)⟩, ⟨by apply Kd.R_drewN; exact Kd.R_mono HO623.out (fun _ hk => ⟨hk.1.1.1.1.1.1.2, ⟨hk.1.1.1.1.2, ⟨hk.1.1.1.2, ⟨hk.1.2, hk.2⟩⟩⟩⟩)⟩, ⟨by apply Kd.R_drewN; exact Kd.R_mono HO631.out (fun _ hk => ⟨hk.1.1.1.1.1.2, ⟨hk.1.1.1.2, ⟨hk.1.1.2, ⟨hk.1.2, hk.1.1.1.1.1.1⟩⟩⟩⟩)⟩, ⟨by apply Kd.R_drewN; exact Kd.R_mono HO633.out (fun _ hk => ⟨hk.1.1.1.1.1.2, ⟨hk.1.1.1.2, ⟨hk.1.1.2, ⟨hk.1.2, hk.1.1.1.1.1.1⟩⟩⟩⟩)⟩, ⟨by (apply pw_below_drewN; exact HB.out)⟩⟩
 ·replace c196 := Bool.eq_false_iff.mpr c196
  subst c196
  rw [if_neg (show ¬ (false = true) by decide)] at H
  have H1 := H
  clear H
  have H := H1
  clear H1
  have H' := Aside0.mk H
  clear H
  obtain ⟨Ao216, co216, eo216⟩ := Kd.R_slice HO600.out
  subst eo216
  obtain ⟨Ao217, co217, eo217⟩ := Kd.R_slice HO604.out
  subst eo217
  go_wp2_with (first | (go_at_call 8; (with_reducible refine (laws_xSame.calls kj124 _ _ t597 _ _ t601 true _ ?side1 ?side2 ?side3 ?side4 A182.out).mono ?_); (case side1 => exact (Kd.R_reads' HO600.out).2.2); (case side2 => exact (Kd.R_reads' HO600.out).2.1); (case side3 => exact (Kd.R_reads' HO604.out).2.2); (case side4 => exact (Kd.R_reads' HO604.out).2.1); rintro e w' ⟨rfl, ⟨nd, rfl⟩⟩; obtain ⟨Ao218, co218, eo218⟩ := Kd.R_slice HO623.out; subst eo218; obtain ⟨Ao219, co219, eo219⟩ := Kd.R_slice HO627.out; subst eo219) | (go_at_call 8; (with_reducible refine (laws_xSame.calls kj124 _ _ t620 _ _ t624 false _ ?side1 ?side2 ?side3 ?side4 A195.out).mono ?_); (case side1 => exact (Kd.R_reads' HO623.out).2.2); (case side2 => exact (Kd.R_reads' HO623.out).2.1); (case side3 => exact (Kd.R_reads' HO627.out).2.2); (case side4 => exact (Kd.R_reads' HO627.out).2.1); rintro e w' ⟨rfl, ⟨nd, rfl⟩⟩))
  refine Met.intro (hJ_ _ _ ?mg_ ?rel)
  case mg_ => kernel_rfl
  case rel => exact ⟨_, (true), (by rfl), H', ⟨by have := HJ7.out; have := HJ16.out; have := HJ44.out; have := HJ92.out; have := HJ124.out; omega⟩, ⟨by apply Kd.R_drewN; exact Kd.R_mono HO600.out (fun _ hk => ⟨hk.1.1.1.1.1.2, ⟨hk.1.1.1.1.2, ⟨hk.1.1.1.2, ⟨hk.1.2, hk.2⟩⟩⟩⟩)⟩, ⟨by apply Kd.R_drewN; exact Kd.R_mono HO611.out (fun _ hk => ⟨hk.1.1.1.1.1.1.2, ⟨hk.1.1.1.1.2, ⟨hk.1.1.1.2, ⟨hk.1.2, hk.2⟩⟩⟩⟩)⟩, ⟨by apply Kd.R_drewN; exact Kd.R_mono HO619.out (fun _ hk => ⟨hk.1.1.1.1.1.1.2, ⟨hk.1.1.1.1.2, ⟨hk.1.1.1.2, ⟨hk.1.2, hk.2⟩⟩⟩⟩)⟩, ⟨by apply Kd.R_drewN; exact Kd.R_mono HO623.out (fun _ hk => ⟨hk.1.1.1.1.1.1.2, ⟨hk.1.1.1.1.2, ⟨hk.1.1.1.2, ⟨hk.1.2, hk.2⟩⟩⟩⟩)⟩, ⟨by apply Kd.R_drewN; exact Kd.R_mono HO631.out (fun _ hk => ⟨hk.1.1.1.1.1.2, ⟨hk.1.1.1.2, ⟨hk.1.1.2, ⟨hk.1.2, hk.1.1.1.1.1.1⟩⟩⟩⟩)⟩, ⟨by apply Kd.R_drewN; exact Kd.R_mono HO633.out (fun _ hk => ⟨hk.1.1.1.1.1.2, ⟨hk.1.1.1.2, ⟨hk.1.1.2, ⟨hk.1.2, hk.1.1.1.1.1.1⟩⟩⟩⟩)⟩, ⟨by (apply pw_below_drewN; exact HB.out)⟩⟩
def laws_FnOrdersChange.c13 : PSigma fun P0_ : Prop => PSigma fun P1_ : Prop => Hole P0_ → Hole P1_ → laws_FnOrdersChange.c10.2.1 := by
 refine' ⟨_, _, fun HP0_ HP1_ => _⟩
 rotate_left 2
 intro k A0 c0 l0 A1 c1 l1 r w HR0 HC0 HR1 HC1 A3 t530 t531 A5 t532 t533 A6 t536 t537 A7 _ _ _ w9 w10 v534 w11 v538 HO535 HO539 _ _ _ HO_7 _ kj7 HJ7 _ _ kj16 HJ16 t549 t550 t551 A35 t552 t553 A36 t556 t557 A37 t560 t561 A38 t562 t563 A39 t564 t565 A40 t568 t569 A41 t570 t571 A42 t572 t573 A43 t574 t575 A44 w46 w47 v554 w48 v558 _ _ w49 Ao50 co50 _ w51 HO555 HO559 HO567 _ _ _ _ _ HO_18 _ _ kj44 HJ44 _ _ HO_27 _ kj92 HJ92 _ _ kj124 HJ124 t595 t596 A151 t597 t598 A152 t601 t602 A153 t605 t606 A154 t607 t608 A155 t609 A156 t612 t613 A157 t614 t615 A158 t616 t617 A159 t620 t621 A160 t624 t625 A161 t628 t629 A162 t634 t635 A163 t636 t637 A164 HC165 w166 w167 v599 w168 v603 w169 w170 w171 Ao172 co172 w173 _ w174 Ao175 co175 w176 v622 w177 v626 w178 HB Ao179 co179 Ao180 co180 HO600 HO604 HO611 HO619 HO623 HO627 HO631 HO633 _ nd _ _ _ _ f_ wc u486 hcut
 clear HC165
 try clear c1
 try clear c2
 try clear p2
 try clear c3
 try clear c4
 try clear c5
 try clear c6
 try clear p6
 try clear c7
 try clear c9
 try clear c10
 try clear c12
 try clear c12b0
 try clear c12b1
 try clear c12b2
 try clear c13
 try clear c14
 try clear c15
 try clear c16
 try clear c17
 try clear c18
 try clear c19
 try clear c20
 try clear c21
 try clear c22
 try clear c23
 try clear c23b0
 try clear c23b1
 try clear c24
 try clear c25
 try clear c26
 try clear c27
 try clear c28
 try clear c29
 try clear c29b0
 try clear c29b1
 try clear c30
 try clear c31
 try clear c32
 try clear c33
 try clear c34
 try clear c52
 try clear c52b0
 try clear c52b1
 try clear c52b2
 try clear c54
 try clear c55
 try clear c55b0
 try clear c55b1
 try clear c55b2
 try clear c58
 try clear c58b0
 try clear c58b1
 try clear c59
 try clear c59b0
 try clear c59b1
 try clear c59b2
 try clear c62
 try clear c62b0
 try clear c62b1
 try clear c63
 try clear c63b0
 try clear c63b1
 try clear c63b2
 try clear p64
 try clear c66
 try clear c66b0
 try clear c66b1
 try clear c67
 try clear c68
 try clear c68b0
 try clear c69
 try clear c69b0
 try clear c69b1
 try clear c69b2
 try clear c74
 try clear c74b0
 try clear c74b1
 try clear c74b2
 try clear c79
 try clear c79b0
 try clear c79b1
 try clear c79b2
 try clear c92
 try clear c94
 try clear c96
 try clear c96b0
 try clear c96b1
 try clear c98
 try clear c99
 try clear c99b0
 try clear c99b1
 try clear c100
 try clear c100b0
 try clear c100b1
 try clear c102
 try clear c103
 try clear c104
 try clear c104b0
 try clear c106
 try clear c106b0
 try clear c106b1
 try clear c126
 try clear c129
 try clear c131
 try clear c132
 try clear c134
 try clear c181
 try clear c181b0
 try clear c181b1
 try clear c181b2
 try clear c183
 try clear c184
 try clear c184b0
 try clear c184b1
 try clear c184b2
 try clear c187
 try clear c187b0
 try clear c187b1
 try clear c188
 try clear c188b0
 try clear c188b1
 try clear c188b2
 try clear c191
 try clear c191b0
 try clear c191b1
 try clear c192
 try clear c192b0
 try clear c192b1
 try clear c192b2
 try clear c196
 try clear c197
 try clear c197b0
 try clear c197b1
 try clear c197b2
 try clear c202
 try clear c202b0
 try clear c202b1
 try clear c203
 try clear p2
 try clear p6
 try clear p64
 obtain ⟨kq, x486_164, rfl, HA, HJ164, HO_46, HO_54, HO_59, HO_61, HO_65, HO_66, HB⟩ := hcut
 cases kq with
 | zero => exact absurd HA.out (by simp [laws_FnOrdersChange.j6])
 | succ kj164 =>
  have H := HA.out
  clear HA
  simp only [laws_FnOrdersChange.j6] at H
  by_cases c226 : x486_164 = true
  ·subst c226
   rw [if_pos rfl] at H
   have H1 := H
   clear H
   have H := H1
   clear H1
   obtain rfl := Option.some.inj H
   go_wp2
   go_ret
   exact ⟨by rfl, HB.out⟩
  ·replace c226 := Bool.eq_false_iff.mpr c226
   subst c226
   rw [if_neg (show ¬ (false = true) by decide)] at H
   have H1 := H
   clear H
   have H := H1
   clear H1
   have HC227 := Aside0.mk H
   clear H
   go_upto_if 487 with (fail)
   refine wp_cutF [o_,o_,o_,o_,i_,o_,o_,o_,o_,o_,o_,o_,o_,o_,o_,o_,o_,o_,o_,o_,o_,o_,o_,o_,o_,o_,o_,o_,o_,o_,o_,o_,o_,o_,o_,o_,o_,o_,o_,o_,o_,o_,o_,o_,o_,o_,o_,o_,o_,o_,o_,o_,o_,o_,o_,o_,o_,o_,o_,o_,o_,o_,o_,o_,o_,o_,o_,o_,o_,o_,o_,i_,i_,o_,o_,o_,o_,o_,o_,o_,o_,o_,o_,i_,i_,i_,i_,i_,i_,i_,i_,i_,i_,i_,i_,i_,i_,i_,i_,i_,i_,i_,i_,i_,i_,i_,i_,i_,i_,i_,i_,i_,i_,i_,i_,i_,i_,i_,i_,i_,i_,i_,i_,i_,i_,i_,i_,i_,i_,i_,i_,i_,i_,i_,i_,i_,i_,i_,i_,i_,i_,i_,i_,i_,i_,i_,i_,i_,i_,i_,i_,i_,i_,i_,i_,i_,i_,i_,i_,i_,i_,i_,i_,i_,i_,i_,i_,i_,i_,i_,i_,i_,i_,i_,i_,i_,i_,i_,i_,i_,i_,i_,i_,i_,i_,i_,i_,i_,i_,i_,i_,i_,i_,i_,i_,i_,i_,i_,i_,i_,i_,i_,i_,i_,i_,i_,i_,i_,i_,i_,i_,i_,i_,i_,i_,i_,i_,i_,i_,i_,i_,i_,i_,i_,i_,i_,i_,i_,i_,i_,i_,i_,i_,i_,i_,i_,i_,i_,i_,i_,i_,i_,i_,i_,i_,i_,i_,i_,i_,i_,i_,i_,i_,i_,i_,i_,i_,i_,i_,i_,i_,i_,i_,i_,i_,i_,i_,i_,i_,i_,i_,i_,i_,i_,i_,i_,i_,i_,i_,i_,i_,i_,i_,i_,i_,i_,i_,i_,i_,i_,i_,i_,i_,i_,i_,i_,i_,i_,i_,i_,i_,i_,i_,i_,i_,i_,i_,i_,i_,i_,i_,i_,i_,i_,i_,i_,i_,i_,i_,i_,i_,i_,i_,i_,i_,i_,i_,i_,i_,i_,i_,i_,i_,i_,i_,i_,i_,i_,i_,i_,i_,i_,i_,i_,i_,i_,i_,i_,i_,i_,i_,i_,i_,i_,i_,i_,i_,i_,i_,i_,i_,i_,i_,i_,i_,i_,i_,i_,i_,i_,i_,i_,i_,i_,i_,i_,i_,i_,i_,i_,i_,i_,i_,i_,i_,i_,i_,i_,i_,i_,i_,i_,i_,i_,i_,i_,i_,i_,i_,i_,i_,i_,i_,i_,i_,i_,i_,i_,i_,i_,i_,i_,i_,i_,i_,i_,i_,i_,i_,i_,i_,i_,i_,i_,i_,i_,i_,i_,i_,i_,i_,i_,i_,i_,i_,i_,i_,i_,i_,i_,i_,i_,i_,i_,i_,i_,i_,i_,i_,i_,i_,i_,i_,i_,i_,i_,i_,i_,i_,i_,i_,i_,i_,i_,i_,i_,i_,i_,i_,i_,i_,i_,i_,i_,i_,i_,i_,i_,i_,i_,i_,i_,i_,i_,i_,i_,i_,i_,i_,i_,i_,i_,i_,i_,i_,i_,i_,i_,i_,i_,i_,i_,i_,i_,i_,i_,i_,i_,i_,i_,i_,i_,i_,i_,i_,i_,i_,i_,i_,i_,i_,i_,i_,i_,i_,i_,i_,i_,i_,i_,i_,i_,i_,i_,i_,i_,i_,i_,i_,i_,i_,i_,i_,i_,i_,i_,i_,i_,i_,i_,i_,i_,i_,i_,i_,i_,i_,i_,i_,i_,i_,i_,i_,i_,i_,i_,i_,i_,i_,i_,i_,i_,i_,i_,i_,i_,i_,i_,i_,i_,i_,i_,i_,i_,i_,i_,i_,i_,i_,i_,i_,i_,i_,i_,i_,i_,i_,i_,i_,i_,i_,i_,i_,i_,i_] (fun f_ wc => ∃ (kq : Nat), Aside0 (laws_FnOrdersChange.j7 kq t595 t596 t597 t605 t606 t609 t612 t613 t616 t617 t620 t621 t628 t629 t634 t635 = some r) ∧ Aside0 (kq ≤ kj164) ∧ Aside0 (Kd.R (Kd.int .i64) 3 wc w.heap.size (fun k_ => some k_ ≠ ((.slice Ao172 t609.length co172) : Value).ownBlock ∧ some k_ ≠ ((.slice Ao175 t616.length co175) : Value).ownBlock ∧ some k_ ≠ (v622 : Value).ownBlock ∧ some k_ ≠ ((.slice Ao179 t628.length co179) : Value).ownBlock ∧ some k_ ≠ ((.slice Ao180 t629.length co180) : Value).ownBlock) v599 t597) ∧ Aside0 (Kd.R (Kd.int .i64) 3 wc w.heap.size (fun k_ => some k_ ≠ (v599 : Value).ownBlock ∧ some k_ ≠ ((.slice Ao175 t616.length co175) : Value).ownBlock ∧ some k_ ≠ (v622 : Value).ownBlock ∧ some k_ ≠ ((.slice Ao179 t628.length co179) : Value).ownBlock ∧ some k_ ≠ ((.slice Ao180 t629.length co180) : Value).ownBlock) (.slice Ao172 t609.length co172) t609) ∧ Aside0 (Kd.R (Kd.int .i64) 3 wc w.heap.size (fun k_ => some k_ ≠ (v599 : Value).ownBlock ∧ some k_ ≠ ((.slice Ao172 t609.length co172) : Value).ownBlock ∧ some k_ ≠ (v622 : Value).ownBlock ∧ some k_ ≠ ((.slice Ao179 t628.length co179) : Value).ownBlock ∧ some k_ ≠ ((.slice Ao180 t629.length co180) : Value).ownBlock) (.slice Ao175 t616.length co175) t616) ∧ Aside0 (Kd.R (Kd.int .i64) 3 wc w.heap.size (fun k_ => some k_ ≠ (v599 : Value).ownBlock ∧ some k_ ≠ ((.slice Ao172 t609.length co172) : Value).ownBlock ∧ some k_ ≠ ((.slice Ao175 t616.length co175) : Value).ownBlock ∧ some k_ ≠ ((.slice Ao179 t628.length co179) : Value).ownBlock ∧ some k_ ≠ ((.slice Ao180 t629.length co180) : Value).ownBlock) v622 t620) ∧ Aside0 (Kd.R (Kd.int .i64) 3 wc w.heap.size (fun k_ => some k_ ≠ (v599 : Value).ownBlock ∧ some k_ ≠ ((.slice Ao172 t609.length co172) : Value).ownBlock ∧ some k_ ≠ ((.slice Ao175 t616.length co175) : Value).ownBlock ∧ some k_ ≠ (v622 : Value).ownBlock ∧ some k_ ≠ ((.slice Ao180 t629.length co180) : Value).ownBlock) (.slice Ao179 t628.length co179) t628) ∧ Aside0 (Kd.R (Kd.int .i64) 3 wc w.heap.size (fun k_ => some k_ ≠ (v599 : Value).ownBlock ∧ some k_ ≠ ((.slice Ao172 t609.length co172) : Value).ownBlock ∧ some k_ ≠ ((.slice Ao175 t616.length co175) : Value).ownBlock ∧ some k_ ≠ (v622 : Value).ownBlock ∧ some k_ ≠ ((.slice Ao179 t628.length co179) : Value).ownBlock) (.slice Ao180 t629.length co180) t629) ∧ Aside0 (Below w.heap.size w wc)) ?rest ?first
   case first =>
    intro J_ K_ hJ_ hK_
    repeat revert ‹_›
    intro HP0_ HP1_
    exact HP0_.out
   case rest =>
    intro f_ wc hcut
    dsimp only [maskF] at hcut ⊢
    repeat revert ‹_›
    intro HP0_ HP1_
    exact HP1_.out
theorem laws_FnOrdersChange.c14 : laws_FnOrdersChange.c13.1 := by
 intro k A0 c0 l0 A1 c1 l1 r w HR0 HC0 HR1 HC1 A3 t530 t531 A5 t532 t533 A6 t536 t537 A7 _ _ _ w9 w10 v534 w11 v538 HO535 HO539 _ _ _ HO_7 _ kj7 HJ7 _ _ kj16 HJ16 t549 t550 t551 A35 t552 t553 A36 t556 t557 A37 t560 t561 A38 t562 t563 A39 t564 t565 A40 t568 t569 A41 t570 t571 A42 t572 t573 A43 t574 t575 A44 w46 w47 v554 w48 v558 _ _ w49 Ao50 co50 _ w51 HO555 HO559 HO567 _ _ _ _ _ HO_18 _ _ kj44 HJ44 _ _ HO_27 _ kj92 HJ92 _ _ kj124 HJ124 t595 t596 A151 t597 t598 A152 t601 t602 A153 t605 t606 A154 t607 t608 A155 t609 A156 t612 t613 A157 t614 t615 A158 t616 t617 A159 t620 t621 A160 t624 t625 A161 t628 t629 A162 t634 t635 A163 t636 t637 A164 w166 w167 v599 w168 v603 w169 w170 w171 Ao172 co172 w173 _ w174 Ao175 co175 w176 v622 w177 v626 w178 _ Ao179 co179 Ao180 co180 HO600 HO604 HO611 HO619 HO623 HO627 HO631 HO633 _ nd f_ wc HO_46 HO_54 HO_59 HO_61 HO_65 HO_66 HB kj164 HJ164 HC227 _ _ J_ K_ hJ_ hK_
 have H := HC227.out
 clear HC227
 by_cases c228 : t598 = true
 ·subst c228
  rw [if_pos rfl] at H
  have H1 := H
  clear H
  have H := H1
  clear H1
  replace H := Option.bind_eq_some_iff.mp H
  obtain ⟨⟨t640, t641⟩, A2290, H⟩ := H
  try dsimp +instances only at H
  replace H := H
  have A229 := Aside0.mk A2290
  clear A2290
  by_cases c230 : t641 = true
  ·subst c230
   rw [if_pos rfl] at H
   have H1 := H
   clear H
   have H := H1
   clear H1
   by_cases c231 : t640 = t596
   ·rw [if_pos c231] at H
    have c231b0 : (t640 == t596) = true := beq_iff_eq.mpr c231
    have c231b1 : (t640 != t596) = false := bne_eq_false_iff_eq.mpr c231
    clear c231
    (first | rw [c231b0] | (simp only [i64_w, i32_w]; rw [c231b0]) | skip)
    by_cases c232 : (t597.length : Int) = t595
    ·rw [if_pos c232] at H
     have c232b0 : ((t597.length : Int) == t595) = true := beq_iff_eq.mpr c232
     have c232b1 : ((t597.length : Int) != t595) = false := bne_eq_false_iff_eq.mpr c232
     clear c232
     have H' := Aside0.mk H
     clear H
     obtain ⟨Ao233, co233, eo233⟩ := Kd.R_slice HO_46.out
     subst eo233
     go_wp2_with (first | ((with_reducible refine gate_callee (f := 27) rfl ?_); refine goesL_ (some 490) rfl rfl Try.func27 (by kernel_rfl) rfl #[.slice Ao233 t597.length co233] rfl (by (try simp only [List.map_toArray, List.map_cons, List.map_nil]); rfl) ?_; (with_reducible refine (impl_RankOfSwapped.calls kj164 _ _ t597 t640 true _ ?side1 ?side2 A229.out).mono ?_); (case side1 => exact (Kd.R_reads' HO_46.out).2.2); (case side2 => exact (Kd.R_reads' HO_46.out).2.1); rintro e w234 ⟨rfl, hb⟩; refine ⟨_, rfl, ?_⟩; have n0_ := Aside0.mk (Kd.R_below (HO_46.out) hb); have n1_ := Aside0.mk (Kd.R_below (HO_54.out) hb); have n2_ := Aside0.mk (Kd.R_below (HO_59.out) hb); have n3_ := Aside0.mk (Kd.R_below (HO_61.out) hb); have n4_ := Aside0.mk (Kd.R_below (HO_65.out) hb); have n5_ := Aside0.mk (Kd.R_below (HO_66.out) hb); have n6_ := Aside0.mk (below_step (HB.out) hb); clear HO_46; clear HO_54; clear HO_59; clear HO_61; clear HO_65; clear HO_66; clear HB; have HO_46 := n0_; have HO_54 := n1_; have HO_59 := n2_; have HO_61 := n3_; have HO_65 := n4_; have HO_66 := n5_; have HB := n6_; clear n0_ n1_ n2_ n3_ n4_ n5_ n6_; clear hb; (try clear hi)))
     refine Met.intro (hJ_ _ _ ?mg_ ?rel)
     case mg_ => kernel_rfl
     case rel => exact ⟨_, H', ⟨by have := HJ7.out; have := HJ16.out; have := HJ44.out; have := HJ92.out; have := HJ124.out; have := HJ164.out; omega⟩, ⟨HO_46.out⟩, ⟨HO_54.out⟩, ⟨HO_59.out⟩, ⟨HO_61.out⟩, ⟨HO_65.out⟩, ⟨HO_66.out⟩, ⟨HB.out⟩⟩
    ·rw [if_neg c232] at H
     have c232b0 : ((t597.length : Int) == t595) = false := beq_eq_false_iff_ne.mpr c232
     have c232b1 : ((t597.length : Int) != t595) = true := bne_iff_ne.mpr c232
     obtain rfl := Option.some.inj H
     obtain ⟨Ao235, co235, eo235⟩ := Kd.R_slice HO_46.out
     subst eo235
     go_wp2_with (first | ((with_reducible refine gate_callee (f := 27) rfl ?_); refine goesL_ (some 490) rfl rfl Try.func27 (by kernel_rfl) rfl #[.slice Ao235 t597.length co235] rfl (by (try simp only [List.map_toArray, List.map_cons, List.map_nil]); rfl) ?_; (with_reducible refine (impl_RankOfSwapped.calls kj164 _ _ t597 t640 true _ ?side1 ?side2 A229.out).mono ?_); (case side1 => exact (Kd.R_reads' HO_46.out).2.2); (case side2 => exact (Kd.R_reads' HO_46.out).2.1); rintro e w236 ⟨rfl, hb⟩; refine ⟨_, rfl, ?_⟩; have n0_ := Aside0.mk (Kd.R_below (HO_46.out) hb); have n1_ := Aside0.mk (Kd.R_below (HO_54.out) hb); have n2_ := Aside0.mk (Kd.R_below (HO_59.out) hb); have n3_ := Aside0.mk (Kd.R_below (HO_61.out) hb); have n4_ := Aside0.mk (Kd.R_below (HO_65.out) hb); have n5_ := Aside0.mk (Kd.R_below (HO_66.out) hb); have n6_ := Aside0.mk (below_step (HB.out) hb); clear HO_46; clear HO_54; clear HO_59; clear HO_61; clear HO_65; clear HO_66; clear HB; have HO_46 := n0_; have HO_54 := n1_; have HO_59 := n2_; have HO_61 := n3_; have HO_65 := n4_; have HO_66 := n5_; have HB := n6_; clear n0_ n1_ n2_ n3_ n4_ n5_ n6_; clear hb; (try clear hi)))
     go_ret
     exact ⟨by rfl, HB.out⟩
   ·rw [if_neg c231] at H
    have c231b0 : (t640 == t596) = false := beq_eq_false_iff_ne.mpr c231
    have c231b1 : (t640 != t596) = true := bne_iff_ne.mpr c231
    (first | rw [c231b0] | (simp only [i64_w, i32_w]; rw [c231b0]) | skip)
    obtain rfl := Option.some.inj H
    obtain ⟨Ao237, co237, eo237⟩ := Kd.R_slice HO_46.out
    subst eo237
    go_wp2_with (first | ((with_reducible refine gate_callee (f := 27) rfl ?_); refine goesL_ (some 490) rfl rfl Try.func27 (by kernel_rfl) rfl #[.slice Ao237 t597.length co237] rfl (by (try simp only [List.map_toArray, List.map_cons, List.map_nil]); rfl) ?_; (with_reducible refine (impl_RankOfSwapped.calls kj164 _ _ t597 t640 true _ ?side1 ?side2 A229.out).mono ?_); (case side1 => exact (Kd.R_reads' HO_46.out).2.2); (case side2 => exact (Kd.R_reads' HO_46.out).2.1); rintro e w238 ⟨rfl, hb⟩; refine ⟨_, rfl, ?_⟩; have n0_ := Aside0.mk (Kd.R_below (HO_46.out) hb); have n1_ := Aside0.mk (Kd.R_below (HO_54.out) hb); have n2_ := Aside0.mk (Kd.R_below (HO_59.out) hb); have n3_ := Aside0.mk (Kd.R_below (HO_61.out) hb); have n4_ := Aside0.mk (Kd.R_below (HO_65.out) hb); have n5_ := Aside0.mk (Kd.R_below (HO_66.out) hb); have n6_ := Aside0.mk (below_step (HB.out) hb); clear HO_46; clear HO_54; clear HO_59; clear HO_61; clear HO_65; clear HO_66; clear HB; have HO_46 := n0_; have HO_54 := n1_; have HO_59 := n2_; have HO_61 := n3_; have HO_65 := n4_; have HO_66 := n5_; have HB := n6_; clear n0_ n1_ n2_ n3_ n4_ n5_ n6_; clear hb; (try clear hi)))
    go_ret
    exact ⟨by rfl, HB.out⟩
  ·replace c230 := Bool.eq_false_iff.mpr c230
   subst c230
   rw [if_neg (show ¬ (false = true) by decide)] at H
   have H1 := H
   clear H
   have H := H1
   clear H1
   obtain rfl := Option.some.inj H
   obtain ⟨Ao239, co239, eo239⟩ := Kd.R_slice HO_46.out
   subst eo239
   go_wp2_with (first | ((with_reducible refine gate_callee (f := 27) rfl ?_); refine goesL_ (some 490) rfl rfl Try.func27 (by kernel_rfl) rfl #[.slice Ao239 t597.length co239] rfl (by (try simp only [List.map_toArray, List.map_cons, List.map_nil]); rfl) ?_; (with_reducible refine (impl_RankOfSwapped.calls kj164 _ _ t597 t640 false _ ?side1 ?side2 A229.out).mono ?_); (case side1 => exact (Kd.R_reads' HO_46.out).2.2); (case side2 => exact (Kd.R_reads' HO_46.out).2.1); rintro e w240 ⟨rfl, hb⟩; refine ⟨_, rfl, ?_⟩; have n0_ := Aside0.mk (Kd.R_below (HO_46.out) hb); have n1_ := Aside0.mk (Kd.R_below (HO_54.out) hb); have n2_ := Aside0.mk (Kd.R_below (HO_59.out) hb); have n3_ := Aside0.mk (Kd.R_below (HO_61.out) hb); have n4_ := Aside0.mk (Kd.R_below (HO_65.out) hb); have n5_ := Aside0.mk (Kd.R_below (HO_66.out) hb); have n6_ := Aside0.mk (below_step (HB.out) hb); clear HO_46; clear HO_54; clear HO_59; clear HO_61; clear HO_65; clear HO_66; clear HB; have HO_46 := n0_; have HO_54 := n1_; have HO_59 := n2_; have HO_61 := n3_; have HO_65 := n4_; have HO_66 := n5_; have HB := n6_; clear n0_ n1_ n2_ n3_ n4_ n5_ n6_; clear hb; (try clear hi)))
   go_ret
   exact ⟨by rfl, HB.out⟩
 ·replace c228 := Bool.eq_false_iff.mpr c228
  subst c228
  rw [if_neg (show ¬ (false = true) by decide)] at H
  have H1 := H
  clear H
  have H := H1
  clear H1
  have H' := Aside0.mk H
  clear H
  go_wp2
  refine Met.intro (hJ_ _ _ ?mg_ ?rel)
  case mg_ => kernel_rfl
  case rel => exact ⟨_, H', ⟨by have := HJ7.out; have := HJ16.out; have := HJ44.out; have := HJ92.out; have := HJ124.out; have := HJ164.out; omega⟩, ⟨HO_46.out⟩, ⟨HO_54.out⟩, ⟨HO_59.out⟩, ⟨HO_61.out⟩, ⟨HO_65.out⟩, ⟨HO_66.out⟩, ⟨HB.out⟩⟩
def laws_FnOrdersChange.c15 : PSigma fun P0_ : Prop => PSigma fun P1_ : Prop => Hole P0_ → Hole P1_ → laws_FnOrdersChange.c13.2.1 := by
 refine' ⟨_, _, fun HP0_ HP1_ => _⟩
 rotate_left 2
 intro k A0 c0 l0 A1 c1 l1 r w HR0 HC0 HR1 HC1 A3 t530 t531 A5 t532 t533 A6 t536 t537 A7 _ _ _ w9 w10 v534 w11 v538 HO535 HO539 _ _ _ HO_7 _ kj7 HJ7 _ _ kj16 HJ16 t549 t550 t551 A35 t552 t553 A36 t556 t557 A37 t560 t561 A38 t562 t563 A39 t564 t565 A40 t568 t569 A41 t570 t571 A42 t572 t573 A43 t574 t575 A44 w46 w47 v554 w48 v558 _ _ w49 Ao50 co50 _ w51 HO555 HO559 HO567 _ _ _ _ _ HO_18 _ _ kj44 HJ44 _ _ HO_27 _ kj92 HJ92 _ _ kj124 HJ124 t595 t596 A151 t597 t598 A152 t601 t602 A153 t605 t606 A154 t607 t608 A155 t609 A156 t612 t613 A157 t614 t615 A158 t616 t617 A159 t620 t621 A160 t624 t625 A161 t628 t629 A162 t634 t635 A163 t636 t637 A164 w166 w167 v599 w168 v603 w169 w170 w171 Ao172 co172 w173 _ w174 Ao175 co175 w176 v622 w177 v626 w178 _ Ao179 co179 Ao180 co180 HO600 HO604 HO611 HO619 HO623 HO627 HO631 HO633 _ nd _ _ HO_46 HO_54 HO_59 HO_61 HO_65 HO_66 HB kj164 HJ164 HC227 _ _ f_ wc hcut
 clear HC227
 try clear c1
 try clear c2
 try clear p2
 try clear c3
 try clear c4
 try clear c5
 try clear c6
 try clear p6
 try clear c7
 try clear c9
 try clear c10
 try clear c12
 try clear c12b0
 try clear c12b1
 try clear c12b2
 try clear c13
 try clear c14
 try clear c15
 try clear c16
 try clear c17
 try clear c18
 try clear c19
 try clear c20
 try clear c21
 try clear c22
 try clear c23
 try clear c23b0
 try clear c23b1
 try clear c24
 try clear c25
 try clear c26
 try clear c27
 try clear c28
 try clear c29
 try clear c29b0
 try clear c29b1
 try clear c30
 try clear c31
 try clear c32
 try clear c33
 try clear c34
 try clear c52
 try clear c52b0
 try clear c52b1
 try clear c52b2
 try clear c54
 try clear c55
 try clear c55b0
 try clear c55b1
 try clear c55b2
 try clear c58
 try clear c58b0
 try clear c58b1
 try clear c59
 try clear c59b0
 try clear c59b1
 try clear c59b2
 try clear c62
 try clear c62b0
 try clear c62b1
 try clear c63
 try clear c63b0
 try clear c63b1
 try clear c63b2
 try clear p64
 try clear c66
 try clear c66b0
 try clear c66b1
 try clear c67
 try clear c68
 try clear c68b0
 try clear c69
 try clear c69b0
 try clear c69b1
 try clear c69b2
 try clear c74
 try clear c74b0
 try clear c74b1
 try clear c74b2
 try clear c79
 try clear c79b0
 try clear c79b1
 try clear c79b2
 try clear c92
 try clear c94
 try clear c96
 try clear c96b0
 try clear c96b1
 try clear c98
 try clear c99
 try clear c99b0
 try clear c99b1
 try clear c100
 try clear c100b0
 try clear c100b1
 try clear c102
 try clear c103
 try clear c104
 try clear c104b0
 try clear c106
 try clear c106b0
 try clear c106b1
 try clear c126
 try clear c129
 try clear c131
 try clear c132
 try clear c134
 try clear c181
 try clear c181b0
 try clear c181b1
 try clear c181b2
 try clear c183
 try clear c184
 try clear c184b0
 try clear c184b1
 try clear c184b2
 try clear c187
 try clear c187b0
 try clear c187b1
 try clear c188
 try clear c188b0
 try clear c188b1
 try clear c188b2
 try clear c191
 try clear c191b0
 try clear c191b1
 try clear c192
 try clear c192b0
 try clear c192b1
 try clear c192b2
 try clear c196
 try clear c197
 try clear c197b0
 try clear c197b1
 try clear c197b2
 try clear c202
 try clear c202b0
 try clear c202b1
 try clear c203
 try clear c226
 try clear c228
 try clear c230
 try clear c231
 try clear c231b0
 try clear c231b1
 try clear c232
 try clear c232b0
 try clear c232b1
 try clear p2
 try clear p6
 try clear p64
 obtain ⟨kq, HA, HJ226, HO_46, HO_54, HO_59, HO_61, HO_65, HO_66, HB⟩ := hcut
 cases kq with
 | zero => exact absurd HA.out (by simp [laws_FnOrdersChange.j7])
 | succ kj226 =>
  have H := HA.out
  clear HA
  simp only [laws_FnOrdersChange.j7] at H
  have HC241 := Aside0.mk H
  clear H
  go_upto_if 506 with (fail)
  refine wp_cutF [o_,o_,o_,o_,i_,o_,o_,o_,o_,o_,o_,o_,o_,o_,o_,o_,o_,o_,o_,o_,o_,o_,o_,o_,o_,o_,o_,o_,o_,o_,o_,o_,o_,o_,o_,o_,o_,o_,o_,o_,o_,o_,o_,o_,o_,o_,o_,o_,o_,o_,o_,o_,o_,o_,o_,o_,o_,o_,o_,o_,o_,o_,o_,o_,o_,o_,o_,o_,o_,o_,o_,o_,o_,i_,i_,o_,o_,o_,o_,o_,o_,o_,o_,i_,i_,i_,i_,i_,i_,i_,i_,i_,i_,i_,i_,i_,i_,i_,i_,i_,i_,i_,i_,i_,i_,i_,i_,i_,i_,i_,i_,i_,i_,i_,i_,i_,i_,i_,i_,i_,i_,i_,i_,i_,i_,i_,i_,i_,i_,i_,i_,i_,i_,i_,i_,i_,i_,i_,i_,i_,i_,i_,i_,i_,i_,i_,i_,i_,i_,i_,i_,i_,i_,i_,i_,i_,i_,i_,i_,i_,i_,i_,i_,i_,i_,i_,i_,i_,i_,i_,i_,i_,i_,i_,i_,i_,i_,i_,i_,i_,i_,i_,i_,i_,i_,i_,i_,i_,i_,i_,i_,i_,i_,i_,i_,i_,i_,i_,i_,i_,i_,i_,i_,i_,i_,i_,i_,i_,i_,i_,i_,i_,i_,i_,i_,i_,i_,i_,i_,i_,i_,i_,i_,i_,i_,i_,i_,i_,i_,i_,i_,i_,i_,i_,i_,i_,i_,i_,i_,i_,i_,i_,i_,i_,i_,i_,i_,i_,i_,i_,i_,i_,i_,i_,i_,i_,i_,i_,i_,i_,i_,i_,i_,i_,i_,i_,i_,i_,i_,i_,i_,i_,i_,i_,i_,i_,i_,i_,i_,i_,i_,i_,i_,i_,i_,i_,i_,i_,i_,i_,i_,i_,i_,i_,i_,i_,i_,i_,i_,i_,i_,i_,i_,i_,i_,i_,i_,i_,i_,i_,i_,i_,i_,i_,i_,i_,i_,i_,i_,i_,i_,i_,i_,i_,i_,i_,i_,i_,i_,i_,i_,i_,i_,i_,i_,i_,i_,i_,i_,i_,i_,i_,i_,i_,i_,i_,i_,i_,i_,i_,i_,i_,i_,i_,i_,i_,i_,i_,i_,i_,i_,i_,i_,i_,i_,i_,i_,i_,i_,i_,i_,i_,i_,i_,i_,i_,i_,i_,i_,i_,i_,i_,i_,i_,i_,i_,i_,i_,i_,i_,i_,i_,i_,i_,i_,i_,i_,i_,i_,i_,i_,i_,i_,i_,i_,i_,i_,i_,i_,i_,i_,i_,i_,i_,i_,i_,i_,i_,i_,i_,i_,i_,i_,i_,i_,i_,i_,i_,i_,i_,i_,i_,i_,i_,i_,i_,i_,i_,i_,i_,i_,i_,i_,i_,i_,i_,i_,i_,i_,i_,i_,i_,i_,i_,i_,i_,i_,i_,i_,i_,i_,i_,i_,i_,i_,i_,i_,i_,i_,i_,i_,i_,i_,i_,i_,i_,i_,i_,i_,i_,i_,i_,i_,i_,i_,i_,i_,i_,i_,i_,i_,i_,i_,i_,i_,i_,i_,i_,i_,i_,i_,i_,i_,i_,i_,i_,i_,i_,i_,i_,i_,i_,i_,i_,i_,i_,i_,i_,i_,i_,i_,i_,i_,i_,i_,i_,i_,i_,i_,i_,i_,i_,i_,i_,i_,i_,i_,i_,i_,i_,i_,i_,i_,i_,i_,i_,i_,i_,i_,i_,i_,i_,i_,i_,i_,i_,i_,i_,i_,i_,i_,i_,i_,i_,i_,i_,i_,i_,i_,i_,i_,i_,i_,i_,i_,i_,i_,i_,i_,i_,i_,i_,i_,i_,i_,i_,i_,i_,i_,i_,i_,i_,i_,i_,i_,i_,i_,i_,i_,i_,i_,i_,i_,i_,i_] (fun f_ wc => ∃ (kq : Nat), Aside0 (laws_FnOrdersChange.j8 kq t609 t612 t613 t616 t617 t620 t621 t628 t629 t634 t635 = some r) ∧ Aside0 (kq ≤ kj226) ∧ Aside0 (Kd.R (Kd.int .i64) 3 wc w.heap.size (fun k_ => some k_ ≠ ((.slice Ao175 t616.length co175) : Value).ownBlock ∧ some k_ ≠ (v622 : Value).ownBlock ∧ some k_ ≠ ((.slice Ao179 t628.length co179) : Value).ownBlock ∧ some k_ ≠ ((.slice Ao180 t629.length co180) : Value).ownBlock) (.slice Ao172 t609.length co172) t609) ∧ Aside0 (Kd.R (Kd.int .i64) 3 wc w.heap.size (fun k_ => some k_ ≠ ((.slice Ao172 t609.length co172) : Value).ownBlock ∧ some k_ ≠ (v622 : Value).ownBlock ∧ some k_ ≠ ((.slice Ao179 t628.length co179) : Value).ownBlock ∧ some k_ ≠ ((.slice Ao180 t629.length co180) : Value).ownBlock) (.slice Ao175 t616.length co175) t616) ∧ Aside0 (Kd.R (Kd.int .i64) 3 wc w.heap.size (fun k_ => some k_ ≠ ((.slice Ao172 t609.length co172) : Value).ownBlock ∧ some k_ ≠ ((.slice Ao175 t616.length co175) : Value).ownBlock ∧ some k_ ≠ ((.slice Ao179 t628.length co179) : Value).ownBlock ∧ some k_ ≠ ((.slice Ao180 t629.length co180) : Value).ownBlock) v622 t620) ∧ Aside0 (Kd.R (Kd.int .i64) 3 wc w.heap.size (fun k_ => some k_ ≠ ((.slice Ao172 t609.length co172) : Value).ownBlock ∧ some k_ ≠ ((.slice Ao175 t616.length co175) : Value).ownBlock ∧ some k_ ≠ (v622 : Value).ownBlock ∧ some k_ ≠ ((.slice Ao180 t629.length co180) : Value).ownBlock) (.slice Ao179 t628.length co179) t628) ∧ Aside0 (Kd.R (Kd.int .i64) 3 wc w.heap.size (fun k_ => some k_ ≠ ((.slice Ao172 t609.length co172) : Value).ownBlock ∧ some k_ ≠ ((.slice Ao175 t616.length co175) : Value).ownBlock ∧ some k_ ≠ (v622 : Value).ownBlock ∧ some k_ ≠ ((.slice Ao179 t628.length co179) : Value).ownBlock) (.slice Ao180 t629.length co180) t629) ∧ Aside0 (Below w.heap.size w wc)) ?rest ?first
  case first =>
   intro J_ K_ hJ_ hK_
   repeat revert ‹_›
   intro HP0_ HP1_
   exact HP0_.out
  case rest =>
   intro f_ wc hcut
   dsimp only [maskF] at hcut ⊢
   repeat revert ‹_›
   intro HP0_ HP1_
   exact HP1_.out
def laws_FnOrdersChange.c16 : PSigma fun P0_ : Prop => PSigma fun P1_ : Prop => PSigma fun P2_ : Prop => PSigma fun P3_ : Prop => Hole P0_ → Hole P1_ → Hole P2_ → Hole P3_ → laws_FnOrdersChange.c15.1 := by
 refine' ⟨_, _, _, _, fun HP0_ HP1_ HP2_ HP3_ => _⟩
 rotate_left 4
 intro k A0 c0 l0 A1 c1 l1 r w HR0 HC0 HR1 HC1 A3 t530 t531 A5 t532 t533 A6 t536 t537 A7 _ _ _ w9 w10 v534 w11 v538 HO535 HO539 _ _ _ HO_7 _ kj7 HJ7 _ _ kj16 HJ16 t549 t550 t551 A35 t552 t553 A36 t556 t557 A37 t560 t561 A38 t562 t563 A39 t564 t565 A40 t568 t569 A41 t570 t571 A42 t572 t573 A43 t574 t575 A44 w46 w47 v554 w48 v558 _ _ w49 Ao50 co50 _ w51 HO555 HO559 HO567 _ _ _ _ _ HO_18 _ _ kj44 HJ44 _ _ HO_27 _ kj92 HJ92 _ _ kj124 HJ124 t595 t596 A151 t597 t598 A152 t601 t602 A153 t605 t606 A154 t607 t608 A155 t609 A156 t612 t613 A157 t614 t615 A158 t616 t617 A159 t620 t621 A160 t624 t625 A161 t628 t629 A162 t634 t635 A163 t636 t637 A164 w166 w167 v599 w168 v603 w169 w170 w171 Ao172 co172 w173 _ w174 Ao175 co175 w176 v622 w177 v626 w178 _ Ao179 co179 Ao180 co180 HO600 HO604 HO611 HO619 HO623 HO627 HO631 HO633 _ nd _ _ _ _ _ _ _ _ _ kj164 HJ164 f_ wc HO_46 HO_54 HO_59 HO_61 HO_65 HO_66 HB kj226 HJ226 HC241 _ _ J_ K_ hJ_ hK_
 have H := HC241.out
 clear HC241
 by_cases c242 : t606 = true
 ·subst c242
  rw [if_pos rfl] at H
  have H1 := H
  clear H
  have H := H1
  clear H1
  replace H := Option.bind_eq_some_iff.mp H
  obtain ⟨⟨t642, t643⟩, A2430, H⟩ := H
  try dsimp +instances only at H
  replace H := H
  have A243 := Aside0.mk A2430
  clear A2430
  by_cases c244 : t643 = true
  ·subst c244
   rw [if_pos rfl] at H
   have H1 := H
   clear H
   have H := H1
   clear H1
   replace H := Option.bind_eq_some_iff.mp H
   obtain ⟨t646, A2450, H⟩ := H
   try dsimp +instances only at H
   replace H := H
   have A245 := Aside0.mk A2450
   clear A2450
   by_cases c246 : t646 = 2
   ·rw [if_pos c246] at H
    have c246b0 : (t646 == 2) = true := beq_iff_eq.mpr c246
    have c246b1 : (t646 != 2) = false := bne_eq_false_iff_eq.mpr c246
    clear c246
    (first | rw [c246b0] | (simp only [i64_w, i32_w]; rw [c246b0]) | skip)
    by_cases c247 : 0 ≤ t605
    ·rw [if_pos c247] at H
     have c247b0 : decide (0 ≤ t605) = true := decide_eq_true c247
     clear c247
     by_cases c248 : t605 < (t597.length : Int)
     ·rw [if_pos c248] at H
      have c248b0 : decide (t605 < (t597.length : Int)) = true := decide_eq_true c248
      clear c248
      obtain ⟨ji249, hji249⟩ : ∃ j_ : Int, (wrap64 (t605 + 1)) = j_ := ⟨_, rfl⟩
      replace H : (if 0 ≤ (ji249) then (if (ji249) < (t642.length : Int) then (if (rd t597 t605) = (rd t642 (ji249)) then (if (ji249) < (t597.length : Int) then (if t605 < (t642.length : Int) then (if (rd t597 (ji249)) = (rd t642 t605) then (laws_FnOrdersChange.j8 kj226 t609 t612 t613 t616 t617 t620 t621 t628 t629 t634 t635) else (some false)) else (none)) else (none)) else (some false)) else (none)) else (none)) = some r := by first | (rw [hji249] at H; exact H) | (simp only [hji249] at H ⊢; exact H)
      (try rw [hji249] at A243)
      (try rw [hji249] at A245)
      have hji249w : (IntKind.i64.wrap (t605 + 1)) = ji249 := (i64_w _).trans hji249
      by_cases c250 : 0 ≤ (ji249)
      ·rw [if_pos c250] at H
       have c250b0 : decide (0 ≤ (ji249)) = true := decide_eq_true c250
       clear c250
       by_cases c251 : (ji249) < (t642.length : Int)
       ·rw [if_pos c251] at H
        have c251b0 : decide ((ji249) < (t642.length : Int)) = true := decide_eq_true c251
        clear c251
        by_cases c252 : (rd t597 t605) = (rd t642 (ji249))
        ·rw [if_pos c252] at H
         have c252b0 : ((rd t597 t605) == (rd t642 (ji249))) = true := beq_iff_eq.mpr c252
         have c252b1 : ((rd t597 t605) != (rd t642 (ji249))) = false := bne_eq_false_iff_eq.mpr c252
         clear c252
         by_cases c253 : (ji249) < (t597.length : Int)
         ·rw [if_pos c253] at H
          have c253b0 : decide ((ji249) < (t597.length : Int)) = true := decide_eq_true c253
          clear c253
          by_cases c254 : t605 < (t642.length : Int)
          ·rw [if_pos c254] at H
           have c254b0 : decide (t605 < (t642.length : Int)) = true := decide_eq_true c254
           clear c254
           by_cases c255 : (rd t597 (ji249)) = (rd t642 t605)
           ·rw [if_pos c255] at H
            have c255b0 : ((rd t597 (ji249)) == (rd t642 t605)) = true := beq_iff_eq.mpr c255
            have c255b1 : ((rd t597 (ji249)) != (rd t642 t605)) = false := bne_eq_false_iff_eq.mpr c255
            clear c255
            have H' := Aside0.mk H
            clear H
            try go_wp2_with (first | ((with_reducible refine gate_callee (f := 22) rfl ?_); refine goesL_ (some 511) rfl rfl Try.func22 (by kernel_rfl) rfl #[.int .i64 t595, .int .i64 (wrap64 (t596 + 1))] rfl (by (try simp only [List.map_toArray, List.map_cons, List.map_nil]); rfl) ?_; (with_reducible refine (impl_SwappedAt.calls kj226 t595 (wrap64 (t596 + 1)) t642 true _ A243.out).mono ?_); rintro e w256 ⟨v644, rfl, ho0, hb⟩; refine ⟨_, rfl, ?_⟩; have n0_ := Aside0.mk (Kd.R_elder' (HO_46.out) (Kd.R_base ho0) hb); have n1_ := Aside0.mk (Kd.R_elder' (HO_54.out) (Kd.R_base ho0) hb); have n2_ := Aside0.mk (Kd.R_elder' (HO_59.out) (Kd.R_base ho0) hb); have n3_ := Aside0.mk (Kd.R_elder' (HO_61.out) (Kd.R_base ho0) hb); have n4_ := Aside0.mk (Kd.R_elder' (HO_65.out) (Kd.R_base ho0) hb); have n5_ := Aside0.mk (Kd.R_elder' (HO_66.out) (Kd.R_base ho0) hb); have n6_ := Aside0.mk (Kd.R_lower (Kd.R_new' (Kd.R_new' (Kd.R_new' (Kd.R_new' (Kd.R_new' (Kd.R_new' ho0 (Kd.R_lt (HO_46.out))) (Kd.R_lt (HO_54.out))) (Kd.R_lt (HO_59.out))) (Kd.R_lt (HO_61.out))) (Kd.R_lt (HO_65.out))) (Kd.R_lt (HO_66.out))) (below_size (HB.out))); have n7_ := Aside0.mk (below_step (HB.out) hb); clear HO_46; clear HO_54; clear HO_59; clear HO_61; clear HO_65; clear HO_66; clear HB; have HO_46 := n0_; have HO_54 := n1_; have HO_59 := n2_; have HO_61 := n3_; have HO_65 := n4_; have HO_66 := n5_; have HO645 := n6_; have HB := n7_; clear n0_ n1_ n2_ n3_ n4_ n5_ n6_ n7_; clear hb; clear ho0))
            have n0_ := Aside0.mk (Kd.R_drew HO_46.out)
            have n1_ := Aside0.mk (Kd.R_drew HO_54.out)
            have n2_ := Aside0.mk (Kd.R_drew HO_59.out)
            have n3_ := Aside0.mk (Kd.R_drew HO_61.out)
            have n4_ := Aside0.mk (Kd.R_drew HO_65.out)
            have n5_ := Aside0.mk (Kd.R_drew HO_66.out)
            have n6_ := Aside0.mk (Kd.R_drew HO645.out)
            have n7_ := Aside0.mk (below_drew1 HB.out)
            clear HO_46
            clear HO_54
            clear HO_59
            clear HO_61
            clear HO_65
            clear HO_66
            clear HO645
            clear HB
            have HO_46 := n0_
            have HO_54 := n1_
            have HO_59 := n2_
            have HO_61 := n3_
            have HO_65 := n4_
            have HO_66 := n5_
            have HO645 := n6_
            have HB := n7_
            clear n0_ n1_ n2_ n3_ n4_ n5_ n6_ n7_
            obtain ⟨Ao258, co258, eo258⟩ := Kd.R_slice HO_46.out
            (first | subst eo258 | (injection eo258 with f1_ f2_ f3_; have f4_ := f1_.symm; have f5_ := f3_.symm; clear f1_ f2_ f3_; subst f4_; subst f5_))
            obtain ⟨Ao259, co259, eo259⟩ := Kd.R_slice HO645.out
            (first | subst eo259 | (injection eo259 with f1_ f2_ f3_; have f4_ := f1_.symm; have f5_ := f3_.symm; clear f1_ f2_ f3_; subst f4_; subst f5_))
            have p647 : 0 ≤ (t605 : Int) := of_decide_eq_true (by with_reducible assumption)
            have q647 : t605 < (t597.length : Int) := of_decide_eq_true (by with_reducible assumption)
            obtain ⟨ad647, e647, hx647_0⟩ := Kd.at_int (Kd.R_reads' HO_46.out).2.2 t605 p647 q647
            cases e647
            replace p647 := eq_true p647
            replace q647 := eq_true q647
            have p648 : 0 ≤ ((ji249) : Int) := of_decide_eq_true (by with_reducible assumption)
            have q648 : (ji249) < (t642.length : Int) := of_decide_eq_true (by with_reducible assumption)
            obtain ⟨ad648, e648, hx648_0⟩ := Kd.at_int (Kd.R_reads' HO645.out).2.2 (ji249) p648 q648
            cases e648
            replace p648 := eq_true p648
            replace q648 := eq_true q648
            have p649 : 0 ≤ ((ji249) : Int) := of_decide_eq_true (by with_reducible assumption)
            have q649 : (ji249) < (t597.length : Int) := of_decide_eq_true (by with_reducible assumption)
            obtain ⟨ad649, e649, hx649_0⟩ := Kd.at_int (Kd.R_reads' HO_46.out).2.2 (ji249) p649 q649
            obtain rfl : ad647 = ad649 := (by injection e649)
            replace p649 := eq_true p649
            replace q649 := eq_true q649
            have p650 : 0 ≤ (t605 : Int) := of_decide_eq_true (by with_reducible assumption)
            have q650 : t605 < (t642.length : Int) := of_decide_eq_true (by with_reducible assumption)
            obtain ⟨ad650, e650, hx650_0⟩ := Kd.at_int (Kd.R_reads' HO645.out).2.2 t605 p650 q650
            obtain rfl : ad648 = ad650 := (by injection e650)
            replace p650 := eq_true p650
            replace q650 := eq_true q650
            refine start_ (n := 32) (S := fun w' => w'.cell? (ad647.add (t605).toNat) = some (.int .i64 (rd t597 t605)) ∧ w'.cell? (ad648.add ((ji249)).toNat) = some (.int .i64 (rd t642 (ji249))) ∧ w'.cell? (ad647.add ((ji249)).toNat) = some (.int .i64 (rd t597 (ji249))) ∧ w'.cell? (ad648.add (t605).toNat) = some (.int .i64 (rd t642 t605))) (ds := []) #[false, false, false, false, false, false, false, false, false, false, false, false, false, false, false, false, false, false, false, false, false, false, false, false, false, false, false, false, false, false, false, false] (by kernel_rfl) rfl rfl ⟨hx647_0, hx648_0, hx649_0, hx650_0⟩ (fun hHeld => ?_); refine with_tabW laws_FnOrdersChange.tab59 laws_FnOrdersChange.bits59 (fun HT_ HW_ => ?_)
            generalize w256.drew = w257 at HO_46 HO_54 HO_59 HO_61 HO_65 HO_66 HO645 HB hx647_0 hx648_0 hx649_0 hx650_0 hHeld ⊢
            refine pure_ (i := 0) (N := some 514) (v := ?_) (a' := ?_) #[true, false, false, false, false, false, false, false, false, false, false, false, false, false, false, false, false, false, false, false, false, false, false, false, false, false, false, false, false, false, false, false] rfl rfl (any_of HT_.out (by kernel_rfl)) (fun _ _ _ h => h) (Or.inl ⟨by rfl, ?_⟩) ?_ ?_
            rotate_left
            ·intro w'
             go_simp
             with_reducible rfl
            rotate_left
            ·simp only [Act.put, List.setIfInBounds_toArray, List.set_cons_zero, List.set_cons_succ, i64_w, i32_w]
             rfl
            refine pure_ (i := 1) (N := some 515) (v := ?_) (a' := ?_) #[true, true, false, false, false, false, false, false, false, false, false, false, false, false, false, false, false, false, false, false, false, false, false, false, false, false, false, false, false, false, false, false] rfl rfl (any_of HT_.out (by kernel_rfl)) (fun _ _ _ h => h) (Or.inl ⟨by rfl, ?_⟩) ?_ ?_
            rotate_left
            ·intro w'
             go_simp
             with_reducible rfl
            rotate_left
            ·simp only [Act.put, List.setIfInBounds_toArray, List.set_cons_zero, List.set_cons_succ, i64_w, i32_w]
             rfl
            refine pure_ (i := 2) (N := some 516) (v := ?_) (a' := ?_) #[true, true, true, false, false, false, false, false, false, false, false, false, false, false, false, false, false, false, false, false, false, false, false, false, false, false, false, false, false, false, false, false] rfl rfl (any_of HT_.out (by kernel_rfl)) (fun _ _ _ h => h) (Or.inl ⟨by rfl, ?_⟩) ?_ ?_
            rotate_left
            ·intro w'
             go_simp
             with_reducible rfl
            rotate_left
            ·simp only [Act.put, List.setIfInBounds_toArray, List.set_cons_zero, List.set_cons_succ, i64_w, i32_w]
             rfl
            refine pure_ (i := 3) (N := some 517) (v := ?_) (a' := ?_) #[true, true, true, true, false, false, false, false, false, false, false, false, false, false, false, false, false, false, false, false, false, false, false, false, false, false, false, false, false, false, false, false] rfl rfl (any_of HT_.out (by kernel_rfl)) (fun _ _ _ h => h) (Or.inl ⟨by rfl, ?_⟩) ?_ ?_
            rotate_left
            ·intro w'
             go_simp
             with_reducible rfl
            rotate_left
            ·simp only [Act.put, List.setIfInBounds_toArray, List.set_cons_zero, List.set_cons_succ, i64_w, i32_w]
             rfl
            refine pure_ (i := 4) (N := some 518) (v := ?_) (a' := ?_) #[true, true, true, true, true, false, false, false, false, false, false, false, false, false, false, false, false, false, false, false, false, false, false, false, false, false, false, false, false, false, false, false] rfl rfl (any_of HT_.out (by kernel_rfl)) (fun _ _ _ h => h) (Or.inl ⟨by rfl, ?_⟩) ?_ ?_
            rotate_left
            ·intro w'
             go_simp
             with_reducible rfl
            rotate_left
            ·simp only [Act.put, List.setIfInBounds_toArray, List.set_cons_zero, List.set_cons_succ, i64_w, i32_w]
             rfl
            refine one_ (i := 5) (N := some 519) #[true, true, true, true, true, true, false, false, false, false, false, false, false, false, false, false, false, false, false, false, false, false, false, false, false, false, false, false, false, false, false, false] rfl rfl (one_of HT_.out (by kernel_rfl)) (by decide) (fun K hK => ?_)
            refine goes_ Try.func35 (by kernel_rfl) rfl #[.slice (some ad647) t597.length co258, .slice (some ad648) t642.length co259] (by rfl) rfl rfl (by (try simp only [List.map_toArray, List.map_cons, List.map_nil]); rfl) ?_
            with_reducible refine (laws_xParts.calls kj226 _ _ t597 _ _ t642 t646 _ ?side1 ?side2 ?side3 ?side4 A245.out).mono ?_
            (case side1 => exact (Kd.R_reads' HO_46.out).2.2)
            (case side2 => exact (Kd.R_reads' HO_46.out).2.1)
            (case side3 => exact (Kd.R_reads' HO645.out).2.2)
            (case side4 => exact (Kd.R_reads' HO645.out).2.1)
            rintro e w' ⟨rfl, ⟨nd, rfl⟩⟩
            refine ⟨_, rfl, ?_⟩
            refine hK.out _ _ ⟨hHeld.1, hHeld.2.1, hHeld.2.2.1, hHeld.2.2.2⟩ (fun hHeld => ?_)
            clear hK K
            refine norm_ (a' := ?_) ?_ ?_
            rotate_left
            ·show Act.put _ (some 519) _ = _
             simp only [Act.put, List.setIfInBounds_toArray, List.set_cons_zero, List.set_cons_succ, i64_w, i32_w]
             rfl
            refine pure_ (i := 6) (N := some 520) (v := ?_) (a' := ?_) #[true, true, true, true, true, true, true, false, false, false, false, false, false, false, false, false, false, false, false, false, false, false, false, false, false, false, false, false, false, false, false, false] rfl rfl (any_of HT_.out (by kernel_rfl)) (fun _ _ _ h => h) (Or.inl ⟨by rfl, ?_⟩) ?_ ?_
            rotate_left
            ·intro w'
             go_simp
             with_reducible rfl
            rotate_left
            ·simp only [Act.put, List.setIfInBounds_toArray, List.set_cons_zero, List.set_cons_succ, i64_w, i32_w]
             rfl
            refine pure_ (i := 7) (N := some 521) (v := ?_) (a' := ?_) #[true, true, true, true, true, true, true, true, false, false, false, false, false, false, false, false, false, false, false, false, false, false, false, false, false, false, false, false, false, false, false, false] rfl rfl (any_of HT_.out (by kernel_rfl)) (fun _ _ _ h => h) (Or.inl ⟨by rfl, ?_⟩) ?_ ?_
            rotate_left
            ·intro w'
             go_simp
             with_reducible rfl
            rotate_left
            ·simp only [Act.put, List.setIfInBounds_toArray, List.set_cons_zero, List.set_cons_succ, i64_w, i32_w]
             rfl
            refine pure_ (i := 8) (N := some 522) (v := ?_) (a' := ?_) #[true, true, true, true, true, true, true, true, true, false, false, false, false, false, false, false, false, false, false, false, false, false, false, false, false, false, false, false, false, false, false, false] rfl rfl (any_of HT_.out (by kernel_rfl)) (fun _ _ _ h => h) (Or.inl ⟨by rfl, ?_⟩) ?_ ?_
            rotate_left
            ·intro w'
             go_simp
             with_reducible rfl
            rotate_left
            ·simp only [Act.put, List.setIfInBounds_toArray, List.set_cons_zero, List.set_cons_succ, i64_w, i32_w]
             rfl
            refine pure_ (i := 9) (N := some 523) (v := ?_) (a' := ?_) #[true, true, true, true, true, true, true, true, true, true, false, false, false, false, false, false, false, false, false, false, false, false, false, false, false, false, false, false, false, false, false, false] rfl rfl (any_of HT_.out (by kernel_rfl)) (fun _ _ _ h => h) (Or.inl ⟨by rfl, ?_⟩) ?_ ?_
            rotate_left
            ·intro w'
             go_simp
             with_reducible rfl
            rotate_left
            ·simp only [Act.put, List.setIfInBounds_toArray, List.set_cons_zero, List.set_cons_succ, i64_w, i32_w]
             rfl
            refine pure_ (i := 10) (N := some 524) (v := ?_) (a' := ?_) #[true, true, true, true, true, true, true, true, true, true, true, false, false, false, false, false, false, false, false, false, false, false, false, false, false, false, false, false, false, false, false, false] rfl rfl (any_of HT_.out (by kernel_rfl)) (fun _ _ _ h => h) (Or.inl ⟨by rfl, ?_⟩) ?_ ?_
            rotate_left
            ·intro w'
             go_simp
             with_reducible rfl
            rotate_left
            ·simp only [Act.put, List.setIfInBounds_toArray, List.set_cons_zero, List.set_cons_succ, i64_w, i32_w]
             rfl
            refine pure_ (i := 11) (N := some 525) (v := ?_) (a' := ?_) #[true, true, true, true, true, true, true, true, true, true, true, true, false, false, false, false, false, false, false, false, false, false, false, false, false, false, false, false, false, false, false, false] rfl rfl (any_of HT_.out (by kernel_rfl)) (fun _ _ _ h => h) (Or.inl ⟨by rfl, ?_⟩) ?_ ?_
            rotate_left
            ·intro w'
             go_simp
             with_reducible rfl
            rotate_left
            ·simp only [Act.put, List.setIfInBounds_toArray, List.set_cons_zero, List.set_cons_succ, i64_w, i32_w]
             rfl
            refine pure_ (i := 13) (N := some 527) (v := ?_) (a' := ?_) #[true, true, true, true, true, true, true, true, true, true, true, true, false, true, false, false, false, false, false, false, false, false, false, false, false, false, false, false, false, false, false, false] rfl rfl (any_of HT_.out (by kernel_rfl)) (fun _ _ _ h => h) (Or.inl ⟨by rfl, ?_⟩) ?_ ?_
            rotate_left
            ·intro w'
             go_simp
             with_reducible rfl
            rotate_left
            ·simp only [Act.put, List.setIfInBounds_toArray, List.set_cons_zero, List.set_cons_succ, i64_w, i32_w]
             rfl
            refine pure_ (i := 14) (N := some 528) (v := ?_) (a' := ?_) #[true, true, true, true, true, true, true, true, true, true, true, true, false, true, true, false, false, false, false, false, false, false, false, false, false, false, false, false, false, false, false, false] rfl rfl (any_of HT_.out (by kernel_rfl)) (fun _ _ _ h => h) (Or.inl ⟨by rfl, ?_⟩) ?_ ?_
            rotate_left
            ·intro w'
             go_simp
             with_reducible rfl
            rotate_left
            ·simp only [Act.put, List.setIfInBounds_toArray, List.set_cons_zero, List.set_cons_succ, i64_w, i32_w]
             rfl
            refine pure_ (i := 15) (N := some 529) (v := ?_) (a' := ?_) #[true, true, true, true, true, true, true, true, true, true, true, true, false, true, true, true, false, false, false, false, false, false, false, false, false, false, false, false, false, false, false, false] rfl rfl (any_of HT_.out (by kernel_rfl)) (fun _ _ _ h => h) (Or.inl ⟨by rfl, ?_⟩) ?_ ?_
            rotate_left
            ·intro w'
             go_simp
             with_reducible rfl
            rotate_left
            ·simp only [Act.put, List.setIfInBounds_toArray, List.set_cons_zero, List.set_cons_succ, i64_w, i32_w]
             rfl
            refine pure_ (i := 16) (N := some 530) (v := ?_) (a' := ?_) #[true, true, true, true, true, true, true, true, true, true, true, true, false, true, true, true, true, false, false, false, false, false, false, false, false, false, false, false, false, false, false, false] rfl rfl (any_of HT_.out (by kernel_rfl)) (fun _ _ _ h => h) (Or.inl ⟨by rfl, ?_⟩) ?_ ?_
            rotate_left
            ·intro w'
             go_simp
             with_reducible rfl
            rotate_left
            ·simp only [Act.put, List.setIfInBounds_toArray, List.set_cons_zero, List.set_cons_succ, i64_w, i32_w]
             rfl
            refine take_ (i := 12) (N := some 526) (v := ?_) (a' := ?_) #[true, true, true, true, true, true, true, true, true, true, true, true, true, true, true, true, true, false, false, false, false, false, false, false, false, false, false, false, false, false, false, false] rfl rfl (take_ofW HT_.out HW_.out (by kernel_rfl)) (fun _ _ _ h => h) (Or.inl ⟨by rfl, ?_⟩) hHeld ?_ ?_
            rotate_left
            ·rintro w' ⟨s0, s1, s2, s3⟩
             go_simp
             with_reducible rfl
            rotate_left
            ·simp only [Act.put, List.setIfInBounds_toArray, List.set_cons_zero, List.set_cons_succ, i64_w, i32_w]
             rfl
            refine take_ (i := 17) (N := some 531) (v := ?_) (a' := ?_) #[true, true, true, true, true, true, true, true, true, true, true, true, true, true, true, true, true, true, false, false, false, false, false, false, false, false, false, false, false, false, false, false] rfl rfl (take_ofW HT_.out HW_.out (by kernel_rfl)) (fun _ _ _ h => h) (Or.inl ⟨by rfl, ?_⟩) hHeld ?_ ?_
            rotate_left
            ·rintro w' ⟨s0, s1, s2, s3⟩
             go_simp
             with_reducible rfl
            rotate_left
            ·simp only [Act.put, List.setIfInBounds_toArray, List.set_cons_zero, List.set_cons_succ, i64_w, i32_w]
             rfl
            refine pure_ (i := 18) (N := some 532) (v := ?_) (a' := ?_) #[true, true, true, true, true, true, true, true, true, true, true, true, true, true, true, true, true, true, true, false, false, false, false, false, false, false, false, false, false, false, false, false] rfl rfl (any_of HT_.out (by kernel_rfl)) (fun _ _ _ h => h) (Or.inl ⟨by rfl, ?_⟩) ?_ ?_
            rotate_left
            ·intro w'
             go_simp
             with_reducible rfl
            rotate_left
            ·simp only [Act.put, List.setIfInBounds_toArray, List.set_cons_zero, List.set_cons_succ, i64_w, i32_w]
             rfl
            refine pure_ (i := 19) (N := some 533) (v := ?_) (a' := ?_) #[true, true, true, true, true, true, true, true, true, true, true, true, true, true, true, true, true, true, true, true, false, false, false, false, false, false, false, false, false, false, false, false] rfl rfl (any_of HT_.out (by kernel_rfl)) (fun _ _ _ h => h) (Or.inl ⟨by rfl, ?_⟩) ?_ ?_
            rotate_left
            ·intro w'
             go_simp
             with_reducible rfl
            rotate_left
            ·simp only [Act.put, List.setIfInBounds_toArray, List.set_cons_zero, List.set_cons_succ, i64_w, i32_w]
             rfl
            refine pure_ (i := 20) (N := some 534) (v := ?_) (a' := ?_) #[true, true, true, true, true, true, true, true, true, true, true, true, true, true, true, true, true, true, true, true, true, false, false, false, false, false, false, false, false, false, false, false] rfl rfl (any_of HT_.out (by kernel_rfl)) (fun _ _ _ h => h) (Or.inl ⟨by rfl, ?_⟩) ?_ ?_
            rotate_left
            ·intro w'
             go_simp
             with_reducible rfl
            rotate_left
            ·simp only [Act.put, List.setIfInBounds_toArray, List.set_cons_zero, List.set_cons_succ, i64_w, i32_w]
             rfl
            refine pure_ (i := 21) (N := some 535) (v := ?_) (a' := ?_) #[true, true, true, true, true, true, true, true, true, true, true, true, true, true, true, true, true, true, true, true, true, true, false, false, false, false, false, false, false, false, false, false] rfl rfl (any_of HT_.out (by kernel_rfl)) (fun _ _ _ h => h) (Or.inl ⟨by rfl, ?_⟩) ?_ ?_
            rotate_left
            ·intro w'
             go_simp
             with_reducible rfl
            rotate_left
            ·simp only [Act.put, List.setIfInBounds_toArray, List.set_cons_zero, List.set_cons_succ, i64_w, i32_w]
             rfl
            refine pure_ (i := 22) (N := some 536) (v := ?_) (a' := ?_) #[true, true, true, true, true, true, true, true, true, true, true, true, true, true, true, true, true, true, true, true, true, true, true, false, false, false, false, false, false, false, false, false] rfl rfl (any_of HT_.out (by kernel_rfl)) (fun _ _ _ h => h) (Or.inl ⟨by rfl, ?_⟩) ?_ ?_
            rotate_left
            ·intro w'
             go_simp
             with_reducible rfl
            rotate_left
            ·simp only [Act.put, List.setIfInBounds_toArray, List.set_cons_zero, List.set_cons_succ, i64_w, i32_w]
             rfl
            refine pure_ (i := 23) (N := some 537) (v := ?_) (a' := ?_) #[true, true, true, true, true, true, true, true, true, true, true, true, true, true, true, true, true, true, true, true, true, true, true, true, false, false, false, false, false, false, false, false] rfl rfl (any_of HT_.out (by kernel_rfl)) (fun _ _ _ h => h) (Or.inl ⟨by rfl, ?_⟩) ?_ ?_
            rotate_left
            ·intro w'
             go_simp
             with_reducible rfl
            rotate_left
            ·simp only [Act.put, List.setIfInBounds_toArray, List.set_cons_zero, List.set_cons_succ, i64_w, i32_w]
             rfl
            refine pure_ (i := 24) (N := some 538) (v := ?_) (a' := ?_) #[true, true, true, true, true, true, true, true, true, true, true, true, true, true, true, true, true, true, true, true, true, true, true, true, true, false, false, false, false, false, false, false] rfl rfl (any_of HT_.out (by kernel_rfl)) (fun _ _ _ h => h) (Or.inl ⟨by rfl, ?_⟩) ?_ ?_
            rotate_left
            ·intro w'
             go_simp
             with_reducible rfl
            rotate_left
            ·simp only [Act.put, List.setIfInBounds_toArray, List.set_cons_zero, List.set_cons_succ, i64_w, i32_w]
             rfl
            refine pure_ (i := 26) (N := some 540) (v := ?_) (a' := ?_) #[true, true, true, true, true, true, true, true, true, true, true, true, true, true, true, true, true, true, true, true, true, true, true, true, true, false, true, false, false, false, false, false] rfl rfl (any_of HT_.out (by kernel_rfl)) (fun _ _ _ h => h) (Or.inl ⟨by rfl, ?_⟩) ?_ ?_
            rotate_left
            ·intro w'
             go_simp
             with_reducible rfl
            rotate_left
            ·simp only [Act.put, List.setIfInBounds_toArray, List.set_cons_zero, List.set_cons_succ, i64_w, i32_w]
             rfl
            refine pure_ (i := 27) (N := some 541) (v := ?_) (a' := ?_) #[true, true, true, true, true, true, true, true, true, true, true, true, true, true, true, true, true, true, true, true, true, true, true, true, true, false, true, true, false, false, false, false] rfl rfl (any_of HT_.out (by kernel_rfl)) (fun _ _ _ h => h) (Or.inl ⟨by rfl, ?_⟩) ?_ ?_
            rotate_left
            ·intro w'
             go_simp
             with_reducible rfl
            rotate_left
            ·simp only [Act.put, List.setIfInBounds_toArray, List.set_cons_zero, List.set_cons_succ, i64_w, i32_w]
             rfl
            refine pure_ (i := 28) (N := some 542) (v := ?_) (a' := ?_) #[true, true, true, true, true, true, true, true, true, true, true, true, true, true, true, true, true, true, true, true, true, true, true, true, true, false, true, true, true, false, false, false] rfl rfl (any_of HT_.out (by kernel_rfl)) (fun _ _ _ h => h) (Or.inl ⟨by rfl, ?_⟩) ?_ ?_
            rotate_left
            ·intro w'
             go_simp
             with_reducible rfl
            rotate_left
            ·simp only [Act.put, List.setIfInBounds_toArray, List.set_cons_zero, List.set_cons_succ, i64_w, i32_w]
             rfl
            refine take_ (i := 25) (N := some 539) (v := ?_) (a' := ?_) #[true, true, true, true, true, true, true, true, true, true, true, true, true, true, true, true, true, true, true, true, true, true, true, true, true, true, true, true, true, false, false, false] rfl rfl (take_ofW HT_.out HW_.out (by kernel_rfl)) (fun _ _ _ h => h) (Or.inl ⟨by rfl, ?_⟩) hHeld ?_ ?_
            rotate_left
            ·rintro w' ⟨s0, s1, s2, s3⟩
             go_simp
             with_reducible rfl
            rotate_left
            ·simp only [Act.put, List.setIfInBounds_toArray, List.set_cons_zero, List.set_cons_succ, i64_w, i32_w]
             rfl
            refine take_ (i := 29) (N := some 543) (v := ?_) (a' := ?_) #[true, true, true, true, true, true, true, true, true, true, true, true, true, true, true, true, true, true, true, true, true, true, true, true, true, true, true, true, true, true, false, false] rfl rfl (take_ofW HT_.out HW_.out (by kernel_rfl)) (fun _ _ _ h => h) (Or.inl ⟨by rfl, ?_⟩) hHeld ?_ ?_
            rotate_left
            ·rintro w' ⟨s0, s1, s2, s3⟩
             go_simp
             with_reducible rfl
            rotate_left
            ·simp only [Act.put, List.setIfInBounds_toArray, List.set_cons_zero, List.set_cons_succ, i64_w, i32_w]
             rfl
            refine pure_ (i := 30) (N := some 544) (v := ?_) (a' := ?_) #[true, true, true, true, true, true, true, true, true, true, true, true, true, true, true, true, true, true, true, true, true, true, true, true, true, true, true, true, true, true, true, false] rfl rfl (any_of HT_.out (by kernel_rfl)) (fun _ _ _ h => h) (Or.inl ⟨by rfl, ?_⟩) ?_ ?_
            rotate_left
            ·intro w'
             go_simp
             with_reducible rfl
            rotate_left
            ·simp only [Act.put, List.setIfInBounds_toArray, List.set_cons_zero, List.set_cons_succ, i64_w, i32_w]
             rfl
            refine pure_ (i := 31) (N := some 545) (v := ?_) (a' := ?_) #[true, true, true, true, true, true, true, true, true, true, true, true, true, true, true, true, true, true, true, true, true, true, true, true, true, true, true, true, true, true, true, true] rfl rfl (any_of HT_.out (by kernel_rfl)) (fun _ _ _ h => h) (Or.inl ⟨by rfl, ?_⟩) ?_ ?_
            rotate_left
            ·intro w'
             go_simp
             with_reducible rfl
            rotate_left
            ·simp only [Act.put, List.setIfInBounds_toArray, List.set_cons_zero, List.set_cons_succ, i64_w, i32_w]
             rfl
            refine done_ (done_of HT_.out (by kernel_rfl)) ?_
            try go_wp2
            refine Met.intro (hJ_ _ _ ?mg_ ?rel)
            case mg_ => kernel_rfl
            case rel => exact ⟨_, H', ⟨by have := HJ7.out; have := HJ16.out; have := HJ44.out; have := HJ92.out; have := HJ124.out; have := HJ164.out; have := HJ226.out; omega⟩, ⟨by apply Kd.R_drewN; exact Kd.R_mono HO_54.out (fun _ hk => ⟨hk.1.2.1, ⟨hk.1.2.2.1, ⟨hk.1.2.2.2.1, hk.1.2.2.2.2⟩⟩⟩)⟩, ⟨by apply Kd.R_drewN; exact Kd.R_mono HO_59.out (fun _ hk => ⟨hk.1.2.1, ⟨hk.1.2.2.1, ⟨hk.1.2.2.2.1, hk.1.2.2.2.2⟩⟩⟩)⟩, ⟨by apply Kd.R_drewN; exact Kd.R_mono HO_61.out (fun _ hk => ⟨hk.1.2.1, ⟨hk.1.2.2.1, ⟨hk.1.2.2.2.1, hk.1.2.2.2.2⟩⟩⟩)⟩, ⟨by apply Kd.R_drewN; exact Kd.R_mono HO_65.out (fun _ hk => ⟨hk.1.2.1, ⟨hk.1.2.2.1, ⟨hk.1.2.2.2.1, hk.1.2.2.2.2⟩⟩⟩)⟩, ⟨by apply Kd.R_drewN; exact Kd.R_mono HO_66.out (fun _ hk => ⟨hk.1.2.1, ⟨hk.1.2.2.1, ⟨hk.1.2.2.2.1, hk.1.2.2.2.2⟩⟩⟩)⟩, ⟨by (apply pw_below_drewN; exact HB.out)⟩⟩
           ·
            repeat revert ‹_›
            intro HP0_ HP1_ HP2_ HP3_
            exact HP0_.out
          ·rw [if_neg c254] at H
           exact absurd H (by simp)
         ·rw [if_neg c253] at H
          exact absurd H (by simp)
        ·
         repeat revert ‹_›
         intro HP0_ HP1_ HP2_ HP3_
         exact HP1_.out
       ·rw [if_neg c251] at H
        exact absurd H (by simp)
      ·rw [if_neg c250] at H
       exact absurd H (by simp)
     ·rw [if_neg c248] at H
      exact absurd H (by simp)
    ·rw [if_neg c247] at H
     exact absurd H (by simp)
   ·
    repeat revert ‹_›
    intro HP0_ HP1_ HP2_ HP3_
    exact HP2_.out
  ·
   repeat revert ‹_›
   intro HP0_ HP1_ HP2_ HP3_
   exact HP3_.out
 ·replace c242 := Bool.eq_false_iff.mpr c242
  subst c242
  rw [if_neg (show ¬ (false = true) by decide)] at H
  have H1 := H
  clear H
  have H := H1
  clear H1
  have H' := Aside0.mk H
  clear H
  go_wp2
  refine Met.intro (hJ_ _ _ ?mg_ ?rel)
  case mg_ => kernel_rfl
  case rel => exact ⟨_, H', ⟨by have := HJ7.out; have := HJ16.out; have := HJ44.out; have := HJ92.out; have := HJ124.out; have := HJ164.out; have := HJ226.out; omega⟩, ⟨by exact Kd.R_mono HO_54.out (fun _ hk => ⟨hk.2.1, ⟨hk.2.2.1, ⟨hk.2.2.2.1, hk.2.2.2.2⟩⟩⟩)⟩, ⟨by exact Kd.R_mono HO_59.out (fun _ hk => ⟨hk.2.1, ⟨hk.2.2.1, ⟨hk.2.2.2.1, hk.2.2.2.2⟩⟩⟩)⟩, ⟨by exact Kd.R_mono HO_61.out (fun _ hk => ⟨hk.2.1, ⟨hk.2.2.1, ⟨hk.2.2.2.1, hk.2.2.2.2⟩⟩⟩)⟩, ⟨by exact Kd.R_mono HO_65.out (fun _ hk => ⟨hk.2.1, ⟨hk.2.2.1, ⟨hk.2.2.2.1, hk.2.2.2.2⟩⟩⟩)⟩, ⟨by exact Kd.R_mono HO_66.out (fun _ hk => ⟨hk.2.1, ⟨hk.2.2.1, ⟨hk.2.2.2.1, hk.2.2.2.2⟩⟩⟩)⟩, ⟨HB.out⟩⟩
theorem laws_FnOrdersChange.c17 : laws_FnOrdersChange.c16.1 := by
 intro k A0 c0 l0 A1 c1 l1 r w HR0 HC0 HR1 HC1 A3 t530 t531 A5 t532 t533 A6 t536 t537 A7 _ _ _ w9 w10 v534 w11 v538 HO535 HO539 _ _ _ HO_7 _ kj7 HJ7 _ _ kj16 HJ16 t549 t550 t551 A35 t552 t553 A36 t556 t557 A37 t560 t561 A38 t562 t563 A39 t564 t565 A40 t568 t569 A41 t570 t571 A42 t572 t573 A43 t574 t575 A44 w46 w47 v554 w48 v558 _ _ w49 Ao50 co50 _ w51 HO555 HO559 HO567 _ _ _ _ _ HO_18 _ _ kj44 HJ44 _ _ HO_27 _ kj92 HJ92 _ _ kj124 HJ124 t595 t596 A151 t597 t598 A152 t601 t602 A153 t605 t607 t608 A155 t609 A156 t612 t613 A157 t614 t615 A158 t616 t617 A159 t620 t621 A160 t624 t625 A161 t628 t629 A162 t634 t635 A163 t636 t637 A164 w166 w167 v599 w168 v603 w169 w170 w171 Ao172 co172 w173 _ w174 Ao175 co175 w176 v622 w177 v626 w178 _ Ao179 co179 Ao180 co180 HO600 HO604 HO611 HO619 HO623 HO627 HO631 HO633 _ nd _ _ _ _ _ _ _ _ _ kj164 HJ164 f_ wc HO_46 HO_54 HO_59 HO_61 HO_65 HO_66 HB kj226 HJ226 _ _ J_ K_ hK_ A154 hJ_ t642 A243 t646 A245 c246b0 c246b1 c247b0 c248b0 ji249 hji249 H hji249w c250b0 c251b0 c252b0 c252b1 c253b0 c254b0 c255
 rw [if_neg c255] at H
 have c255b0 : ((rd t597 (ji249)) == (rd t642 t605)) = false := beq_eq_false_iff_ne.mpr c255
 have c255b1 : ((rd t597 (ji249)) != (rd t642 t605)) = true := bne_iff_ne.mpr c255
 obtain rfl := Option.some.inj H
 try go_wp2_with (first | ((with_reducible refine gate_callee (f := 22) rfl ?_); refine goesL_ (some 511) rfl rfl Try.func22 (by kernel_rfl) rfl #[.int .i64 t595, .int .i64 (wrap64 (t596 + 1))] rfl (by (try simp only [List.map_toArray, List.map_cons, List.map_nil]); rfl) ?_; (with_reducible refine (impl_SwappedAt.calls kj226 t595 (wrap64 (t596 + 1)) t642 true _ A243.out).mono ?_); rintro e w260 ⟨v644, rfl, ho0, hb⟩; refine ⟨_, rfl, ?_⟩; have n0_ := Aside0.mk (Kd.R_elder' (HO_46.out) (Kd.R_base ho0) hb); have n1_ := Aside0.mk (Kd.R_elder' (HO_54.out) (Kd.R_base ho0) hb); have n2_ := Aside0.mk (Kd.R_elder' (HO_59.out) (Kd.R_base ho0) hb); have n3_ := Aside0.mk (Kd.R_elder' (HO_61.out) (Kd.R_base ho0) hb); have n4_ := Aside0.mk (Kd.R_elder' (HO_65.out) (Kd.R_base ho0) hb); have n5_ := Aside0.mk (Kd.R_elder' (HO_66.out) (Kd.R_base ho0) hb); have n6_ := Aside0.mk (Kd.R_lower (Kd.R_new' (Kd.R_new' (Kd.R_new' (Kd.R_new' (Kd.R_new' (Kd.R_new' ho0 (Kd.R_lt (HO_46.out))) (Kd.R_lt (HO_54.out))) (Kd.R_lt (HO_59.out))) (Kd.R_lt (HO_61.out))) (Kd.R_lt (HO_65.out))) (Kd.R_lt (HO_66.out))) (below_size (HB.out))); have n7_ := Aside0.mk (below_step (HB.out) hb); clear HO_46; clear HO_54; clear HO_59; clear HO_61; clear HO_65; clear HO_66; clear HB; have HO_46 := n0_; have HO_54 := n1_; have HO_59 := n2_; have HO_61 := n3_; have HO_65 := n4_; have HO_66 := n5_; have HO645 := n6_; have HB := n7_; clear n0_ n1_ n2_ n3_ n4_ n5_ n6_ n7_; clear hb; clear ho0))
 have n0_ := Aside0.mk (Kd.R_drew HO_46.out)
 have n1_ := Aside0.mk (Kd.R_drew HO_54.out)
 have n2_ := Aside0.mk (Kd.R_drew HO_59.out)
 have n3_ := Aside0.mk (Kd.R_drew HO_61.out)
 have n4_ := Aside0.mk (Kd.R_drew HO_65.out)
 have n5_ := Aside0.mk (Kd.R_drew HO_66.out)
 have n6_ := Aside0.mk (Kd.R_drew HO645.out)
 have n7_ := Aside0.mk (below_drew1 HB.out)
 clear HO_46
 clear HO_54
 clear HO_59
 clear HO_61
 clear HO_65
 clear HO_66
 clear HO645
 clear HB
 have HO_46 := n0_
 have HO_54 := n1_
 have HO_59 := n2_
 have HO_61 := n3_
 have HO_65 := n4_
 have HO_66 := n5_
 have HO645 := n6_
 have HB := n7_
 clear n0_ n1_ n2_ n3_ n4_ n5_ n6_ n7_
 obtain ⟨Ao262, co262, eo262⟩ := Kd.R_slice HO_46.out
 (first | subst eo262 | (injection eo262 with f1_ f2_ f3_; have f4_ := f1_.symm; have f5_ := f3_.symm; clear f1_ f2_ f3_; subst f4_; subst f5_))
 obtain ⟨Ao263, co263, eo263⟩ := Kd.R_slice HO645.out
 (first | subst eo263 | (injection eo263 with f1_ f2_ f3_; have f4_ := f1_.symm; have f5_ := f3_.symm; clear f1_ f2_ f3_; subst f4_; subst f5_))
 have p647 : 0 ≤ (t605 : Int) := of_decide_eq_true (by with_reducible assumption)
 have q647 : t605 < (t597.length : Int) := of_decide_eq_true (by with_reducible assumption)
 obtain ⟨ad647, e647, hx647_0⟩ := Kd.at_int (Kd.R_reads' HO_46.out).2.2 t605 p647 q647
 cases e647
 replace p647 := eq_true p647
 replace q647 := eq_true q647
 have p648 : 0 ≤ ((ji249) : Int) := of_decide_eq_true (by with_reducible assumption)
 have q648 : (ji249) < (t642.length : Int) := of_decide_eq_true (by with_reducible assumption)
 obtain ⟨ad648, e648, hx648_0⟩ := Kd.at_int (Kd.R_reads' HO645.out).2.2 (ji249) p648 q648
 cases e648
 replace p648 := eq_true p648
 replace q648 := eq_true q648
 have p649 : 0 ≤ ((ji249) : Int) := of_decide_eq_true (by with_reducible assumption)
 have q649 : (ji249) < (t597.length : Int) := of_decide_eq_true (by with_reducible assumption)
 obtain ⟨ad649, e649, hx649_0⟩ := Kd.at_int (Kd.R_reads' HO_46.out).2.2 (ji249) p649 q649
 obtain rfl : ad647 = ad649 := (by injection e649)
 replace p649 := eq_true p649
 replace q649 := eq_true q649
 have p650 : 0 ≤ (t605 : Int) := of_decide_eq_true (by with_reducible assumption)
 have q650 : t605 < (t642.length : Int) := of_decide_eq_true (by with_reducible assumption)
 obtain ⟨ad650, e650, hx650_0⟩ := Kd.at_int (Kd.R_reads' HO645.out).2.2 t605 p650 q650
 obtain rfl : ad648 = ad650 := (by injection e650)
 replace p650 := eq_true p650
 replace q650 := eq_true q650
 refine start_ (n := 32) (S := fun w' => w'.cell? (ad647.add (t605).toNat) = some (.int .i64 (rd t597 t605)) ∧ w'.cell? (ad648.add ((ji249)).toNat) = some (.int .i64 (rd t642 (ji249))) ∧ w'.cell? (ad647.add ((ji249)).toNat) = some (.int .i64 (rd t597 (ji249))) ∧ w'.cell? (ad648.add (t605).toNat) = some (.int .i64 (rd t642 t605))) (ds := []) #[false, false, false, false, false, false, false, false, false, false, false, false, false, false, false, false, false, false, false, false, false, false, false, false, false, false, false, false, false, false, false, false] (by kernel_rfl) rfl rfl ⟨hx647_0, hx648_0, hx649_0, hx650_0⟩ (fun hHeld => ?_); refine with_tabW laws_FnOrdersChange.tab59 laws_FnOrdersChange.bits59 (fun HT_ HW_ => ?_)
 generalize w260.drew = w261 at HO_46 HO_54 HO_59 HO_61 HO_65 HO_66 HO645 HB hx647_0 hx648_0 hx649_0 hx650_0 hHeld ⊢
 refine pure_ (i := 0) (N := some 514) (v := ?_) (a' := ?_) #[true, false, false, false, false, false, false, false, false, false, false, false, false, false, false, false, false, false, false, false, false, false, false, false, false, false, false, false, false, false, false, false] rfl rfl (any_of HT_.out (by kernel_rfl)) (fun _ _ _ h => h) (Or.inl ⟨by rfl, ?_⟩) ?_ ?_
 rotate_left
 ·intro w'
  go_simp
  with_reducible rfl
 rotate_left
 ·simp only [Act.put, List.setIfInBounds_toArray, List.set_cons_zero, List.set_cons_succ, i64_w, i32_w]
  rfl
 refine pure_ (i := 1) (N := some 515) (v := ?_) (a' := ?_) #[true, true, false, false, false, false, false, false, false, false, false, false, false, false, false, false, false, false, false, false, false, false, false, false, false, false, false, false, false, false, false, false] rfl rfl (any_of HT_.out (by kernel_rfl)) (fun _ _ _ h => h) (Or.inl ⟨by rfl, ?_⟩) ?_ ?_
 rotate_left
 ·intro w'
  go_simp
  with_reducible rfl
 rotate_left
 ·simp only [Act.put, List.setIfInBounds_toArray, List.set_cons_zero, List.set_cons_succ, i64_w, i32_w]
  rfl
 refine pure_ (i := 2) (N := some 516) (v := ?_) (a' := ?_) #[true, true, true, false, false, false, false, false, false, false, false, false, false, false, false, false, false, false, false, false, false, false, false, false, false, false, false, false, false, false, false, false] rfl rfl (any_of HT_.out (by kernel_rfl)) (fun _ _ _ h => h) (Or.inl ⟨by rfl, ?_⟩) ?_ ?_
 rotate_left
 ·intro w'
  go_simp
  with_reducible rfl
 rotate_left
 ·simp only [Act.put, List.setIfInBounds_toArray, List.set_cons_zero, List.set_cons_succ, i64_w, i32_w]
  rfl
 refine pure_ (i := 3) (N := some 517) (v := ?_) (a' := ?_) #[true, true, true, true, false, false, false, false, false, false, false, false, false, false, false, false, false, false, false, false, false, false, false, false, false, false, false, false, false, false, false, false] rfl rfl (any_of HT_.out (by kernel_rfl)) (fun _ _ _ h => h) (Or.inl ⟨by rfl, ?_⟩) ?_ ?_
 rotate_left
 ·intro w'
  go_simp
  with_reducible rfl
 rotate_left
 ·simp only [Act.put, List.setIfInBounds_toArray, List.set_cons_zero, List.set_cons_succ, i64_w, i32_w]
  rfl
 refine pure_ (i := 4) (N := some 518) (v := ?_) (a' := ?_) #[true, true, true, true, true, false, false, false, false, false, false, false, false, false, false, false, false, false, false, false, false, false, false, false, false, false, false, false, false, false, false, false] rfl rfl (any_of HT_.out (by kernel_rfl)) (fun _ _ _ h => h) (Or.inl ⟨by rfl, ?_⟩) ?_ ?_
 rotate_left
 ·intro w'
  go_simp
  with_reducible rfl
 rotate_left
 ·simp only [Act.put, List.setIfInBounds_toArray, List.set_cons_zero, List.set_cons_succ, i64_w, i32_w]
  rfl
 refine one_ (i := 5) (N := some 519) #[true, true, true, true, true, true, false, false, false, false, false, false, false, false, false, false, false, false, false, false, false, false, false, false, false, false, false, false, false, false, false, false] rfl rfl (one_of HT_.out (by kernel_rfl)) (by decide) (fun K hK => ?_)
 refine goes_ Try.func35 (by kernel_rfl) rfl #[.slice (some ad647) t597.length co262, .slice (some ad648) t642.length co263] (by rfl) rfl rfl (by (try simp only [List.map_toArray, List.map_cons, List.map_nil]); rfl) ?_
 with_reducible refine (laws_xParts.calls kj226 _ _ t597 _ _ t642 t646 _ ?side1 ?side2 ?side3 ?side4 A245.out).mono ?_
 (case side1 => exact (Kd.R_reads' HO_46.out).2.2)
 (case side2 => exact (Kd.R_reads' HO_46.out).2.1)
 (case side3 => exact (Kd.R_reads' HO645.out).2.2)
 (case side4 => exact (Kd.R_reads' HO645.out).2.1)
 rintro e w' ⟨rfl, ⟨nd, rfl⟩⟩
 refine ⟨_, rfl, ?_⟩
 refine hK.out _ _ ⟨hHeld.1, hHeld.2.1, hHeld.2.2.1, hHeld.2.2.2⟩ (fun hHeld => ?_)
 clear hK K
 refine norm_ (a' := ?_) ?_ ?_
 rotate_left
 ·show Act.put _ (some 519) _ = _
  simp only [Act.put, List.setIfInBounds_toArray, List.set_cons_zero, List.set_cons_succ, i64_w, i32_w]
  rfl
 refine pure_ (i := 6) (N := some 520) (v := ?_) (a' := ?_) #[true, true, true, true, true, true, true, false, false, false, false, false, false, false, false, false, false, false, false, false, false, false, false, false, false, false, false, false, false, false, false, false] rfl rfl (any_of HT_.out (by kernel_rfl)) (fun _ _ _ h => h) (Or.inl ⟨by rfl, ?_⟩) ?_ ?_
 rotate_left
 ·intro w'
  go_simp
  with_reducible rfl
 rotate_left
 ·simp only [Act.put, List.setIfInBounds_toArray, List.set_cons_zero, List.set_cons_succ, i64_w, i32_w]
  rfl
 refine pure_ (i := 7) (N := some 521) (v := ?_) (a' := ?_) #[true, true, true, true, true, true, true, true, false, false, false, false, false, false, false, false, false, false, false, false, false, false, false, false, false, false, false, false, false, false, false, false] rfl rfl (any_of HT_.out (by kernel_rfl)) (fun _ _ _ h => h) (Or.inl ⟨by rfl, ?_⟩) ?_ ?_
 rotate_left
 ·intro w'
  go_simp
  with_reducible rfl
 rotate_left
 ·simp only [Act.put, List.setIfInBounds_toArray, List.set_cons_zero, List.set_cons_succ, i64_w, i32_w]
  rfl
 refine pure_ (i := 8) (N := some 522) (v := ?_) (a' := ?_) #[true, true, true, true, true, true, true, true, true, false, false, false, false, false, false, false, false, false, false, false, false, false, false, false, false, false, false, false, false, false, false, false] rfl rfl (any_of HT_.out (by kernel_rfl)) (fun _ _ _ h => h) (Or.inl ⟨by rfl, ?_⟩) ?_ ?_
 rotate_left
 ·intro w'
  go_simp
  with_reducible rfl
 rotate_left
 ·simp only [Act.put, List.setIfInBounds_toArray, List.set_cons_zero, List.set_cons_succ, i64_w, i32_w]
  rfl
 refine pure_ (i := 9) (N := some 523) (v := ?_) (a' := ?_) #[true, true, true, true, true, true, true, true, true, true, false, false, false, false, false, false, false, false, false, false, false, false, false, false, false, false, false, false, false, false, false, false] rfl rfl (any_of HT_.out (by kernel_rfl)) (fun _ _ _ h => h) (Or.inl ⟨by rfl, ?_⟩) ?_ ?_
 rotate_left
 ·intro w'
  go_simp
  with_reducible rfl
 rotate_left
 ·simp only [Act.put, List.setIfInBounds_toArray, List.set_cons_zero, List.set_cons_succ, i64_w, i32_w]
  rfl
 refine pure_ (i := 10) (N := some 524) (v := ?_) (a' := ?_) #[true, true, true, true, true, true, true, true, true, true, true, false, false, false, false, false, false, false, false, false, false, false, false, false, false, false, false, false, false, false, false, false] rfl rfl (any_of HT_.out (by kernel_rfl)) (fun _ _ _ h => h) (Or.inl ⟨by rfl, ?_⟩) ?_ ?_
 rotate_left
 ·intro w'
  go_simp
  with_reducible rfl
 rotate_left
 ·simp only [Act.put, List.setIfInBounds_toArray, List.set_cons_zero, List.set_cons_succ, i64_w, i32_w]
  rfl
 refine pure_ (i := 11) (N := some 525) (v := ?_) (a' := ?_) #[true, true, true, true, true, true, true, true, true, true, true, true, false, false, false, false, false, false, false, false, false, false, false, false, false, false, false, false, false, false, false, false] rfl rfl (any_of HT_.out (by kernel_rfl)) (fun _ _ _ h => h) (Or.inl ⟨by rfl, ?_⟩) ?_ ?_
 rotate_left
 ·intro w'
  go_simp
  with_reducible rfl
 rotate_left
 ·simp only [Act.put, List.setIfInBounds_toArray, List.set_cons_zero, List.set_cons_succ, i64_w, i32_w]
  rfl
 refine pure_ (i := 13) (N := some 527) (v := ?_) (a' := ?_) #[true, true, true, true, true, true, true, true, true, true, true, true, false, true, false, false, false, false, false, false, false, false, false, false, false, false, false, false, false, false, false, false] rfl rfl (any_of HT_.out (by kernel_rfl)) (fun _ _ _ h => h) (Or.inl ⟨by rfl, ?_⟩) ?_ ?_
 rotate_left
 ·intro w'
  go_simp
  with_reducible rfl
 rotate_left
 ·simp only [Act.put, List.setIfInBounds_toArray, List.set_cons_zero, List.set_cons_succ, i64_w, i32_w]
  rfl
 refine pure_ (i := 14) (N := some 528) (v := ?_) (a' := ?_) #[true, true, true, true, true, true, true, true, true, true, true, true, false, true, true, false, false, false, false, false, false, false, false, false, false, false, false, false, false, false, false, false] rfl rfl (any_of HT_.out (by kernel_rfl)) (fun _ _ _ h => h) (Or.inl ⟨by rfl, ?_⟩) ?_ ?_
 rotate_left
 ·intro w'
  go_simp
  with_reducible rfl
 rotate_left
 ·simp only [Act.put, List.setIfInBounds_toArray, List.set_cons_zero, List.set_cons_succ, i64_w, i32_w]
  rfl
 refine pure_ (i := 15) (N := some 529) (v := ?_) (a' := ?_) #[true, true, true, true, true, true, true, true, true, true, true, true, false, true, true, true, false, false, false, false, false, false, false, false, false, false, false, false, false, false, false, false] rfl rfl (any_of HT_.out (by kernel_rfl)) (fun _ _ _ h => h) (Or.inl ⟨by rfl, ?_⟩) ?_ ?_
 rotate_left
 ·intro w'
  go_simp
  with_reducible rfl
 rotate_left
 ·simp only [Act.put, List.setIfInBounds_toArray, List.set_cons_zero, List.set_cons_succ, i64_w, i32_w]
  rfl
 refine pure_ (i := 16) (N := some 530) (v := ?_) (a' := ?_) #[true, true, true, true, true, true, true, true, true, true, true, true, false, true, true, true, true, false, false, false, false, false, false, false, false, false, false, false, false, false, false, false] rfl rfl (any_of HT_.out (by kernel_rfl)) (fun _ _ _ h => h) (Or.inl ⟨by rfl, ?_⟩) ?_ ?_
 rotate_left
 ·intro w'
  go_simp
  with_reducible rfl
 rotate_left
 ·simp only [Act.put, List.setIfInBounds_toArray, List.set_cons_zero, List.set_cons_succ, i64_w, i32_w]
  rfl
 refine take_ (i := 12) (N := some 526) (v := ?_) (a' := ?_) #[true, true, true, true, true, true, true, true, true, true, true, true, true, true, true, true, true, false, false, false, false, false, false, false, false, false, false, false, false, false, false, false] rfl rfl (take_ofW HT_.out HW_.out (by kernel_rfl)) (fun _ _ _ h => h) (Or.inl ⟨by rfl, ?_⟩) hHeld ?_ ?_
 rotate_left
 ·rintro w' ⟨s0, s1, s2, s3⟩
  go_simp
  with_reducible rfl
 rotate_left
 ·simp only [Act.put, List.setIfInBounds_toArray, List.set_cons_zero, List.set_cons_succ, i64_w, i32_w]
  rfl
 refine take_ (i := 17) (N := some 531) (v := ?_) (a' := ?_) #[true, true, true, true, true, true, true, true, true, true, true, true, true, true, true, true, true, true, false, false, false, false, false, false, false, false, false, false, false, false, false, false] rfl rfl (take_ofW HT_.out HW_.out (by kernel_rfl)) (fun _ _ _ h => h) (Or.inl ⟨by rfl, ?_⟩) hHeld ?_ ?_
 rotate_left
 ·rintro w' ⟨s0, s1, s2, s3⟩
  go_simp
  with_reducible rfl
 rotate_left
 ·simp only [Act.put, List.setIfInBounds_toArray, List.set_cons_zero, List.set_cons_succ, i64_w, i32_w]
  rfl
 refine pure_ (i := 18) (N := some 532) (v := ?_) (a' := ?_) #[true, true, true, true, true, true, true, true, true, true, true, true, true, true, true, true, true, true, true, false, false, false, false, false, false, false, false, false, false, false, false, false] rfl rfl (any_of HT_.out (by kernel_rfl)) (fun _ _ _ h => h) (Or.inl ⟨by rfl, ?_⟩) ?_ ?_
 rotate_left
 ·intro w'
  go_simp
  with_reducible rfl
 rotate_left
 ·simp only [Act.put, List.setIfInBounds_toArray, List.set_cons_zero, List.set_cons_succ, i64_w, i32_w]
  rfl
 refine pure_ (i := 19) (N := some 533) (v := ?_) (a' := ?_) #[true, true, true, true, true, true, true, true, true, true, true, true, true, true, true, true, true, true, true, true, false, false, false, false, false, false, false, false, false, false, false, false] rfl rfl (any_of HT_.out (by kernel_rfl)) (fun _ _ _ h => h) (Or.inl ⟨by rfl, ?_⟩) ?_ ?_
 rotate_left
 ·intro w'
  go_simp
  with_reducible rfl
 rotate_left
 ·simp only [Act.put, List.setIfInBounds_toArray, List.set_cons_zero, List.set_cons_succ, i64_w, i32_w]
  rfl
 refine pure_ (i := 20) (N := some 534) (v := ?_) (a' := ?_) #[true, true, true, true, true, true, true, true, true, true, true, true, true, true, true, true, true, true, true, true, true, false, false, false, false, false, false, false, false, false, false, false] rfl rfl (any_of HT_.out (by kernel_rfl)) (fun _ _ _ h => h) (Or.inl ⟨by rfl, ?_⟩) ?_ ?_
 rotate_left
 ·intro w'
  go_simp
  with_reducible rfl
 rotate_left
 ·simp only [Act.put, List.setIfInBounds_toArray, List.set_cons_zero, List.set_cons_succ, i64_w, i32_w]
  rfl
 refine pure_ (i := 21) (N := some 535) (v := ?_) (a' := ?_) #[true, true, true, true, true, true, true, true, true, true, true, true, true, true, true, true, true, true, true, true, true, true, false, false, false, false, false, false, false, false, false, false] rfl rfl (any_of HT_.out (by kernel_rfl)) (fun _ _ _ h => h) (Or.inl ⟨by rfl, ?_⟩) ?_ ?_
 rotate_left
 ·intro w'
  go_simp
  with_reducible rfl
 rotate_left
 ·simp only [Act.put, List.setIfInBounds_toArray, List.set_cons_zero, List.set_cons_succ, i64_w, i32_w]
  rfl
 refine pure_ (i := 22) (N := some 536) (v := ?_) (a' := ?_) #[true, true, true, true, true, true, true, true, true, true, true, true, true, true, true, true, true, true, true, true, true, true, true, false, false, false, false, false, false, false, false, false] rfl rfl (any_of HT_.out (by kernel_rfl)) (fun _ _ _ h => h) (Or.inl ⟨by rfl, ?_⟩) ?_ ?_
 rotate_left
 ·intro w'
  go_simp
  with_reducible rfl
 rotate_left
 ·simp only [Act.put, List.setIfInBounds_toArray, List.set_cons_zero, List.set_cons_succ, i64_w, i32_w]
  rfl
 refine pure_ (i := 23) (N := some 537) (v := ?_) (a' := ?_) #[true, true, true, true, true, true, true, true, true, true, true, true, true, true, true, true, true, true, true, true, true, true, true, true, false, false, false, false, false, false, false, false] rfl rfl (any_of HT_.out (by kernel_rfl)) (fun _ _ _ h => h) (Or.inl ⟨by rfl, ?_⟩) ?_ ?_
 rotate_left
 ·intro w'
  go_simp
  with_reducible rfl
 rotate_left
 ·simp only [Act.put, List.setIfInBounds_toArray, List.set_cons_zero, List.set_cons_succ, i64_w, i32_w]
  rfl
 refine pure_ (i := 24) (N := some 538) (v := ?_) (a' := ?_) #[true, true, true, true, true, true, true, true, true, true, true, true, true, true, true, true, true, true, true, true, true, true, true, true, true, false, false, false, false, false, false, false] rfl rfl (any_of HT_.out (by kernel_rfl)) (fun _ _ _ h => h) (Or.inl ⟨by rfl, ?_⟩) ?_ ?_
 rotate_left
 ·intro w'
  go_simp
  with_reducible rfl
 rotate_left
 ·simp only [Act.put, List.setIfInBounds_toArray, List.set_cons_zero, List.set_cons_succ, i64_w, i32_w]
  rfl
 refine pure_ (i := 26) (N := some 540) (v := ?_) (a' := ?_) #[true, true, true, true, true, true, true, true, true, true, true, true, true, true, true, true, true, true, true, true, true, true, true, true, true, false, true, false, false, false, false, false] rfl rfl (any_of HT_.out (by kernel_rfl)) (fun _ _ _ h => h) (Or.inl ⟨by rfl, ?_⟩) ?_ ?_
 rotate_left
 ·intro w'
  go_simp
  with_reducible rfl
 rotate_left
 ·simp only [Act.put, List.setIfInBounds_toArray, List.set_cons_zero, List.set_cons_succ, i64_w, i32_w]
  rfl
 refine pure_ (i := 27) (N := some 541) (v := ?_) (a' := ?_) #[true, true, true, true, true, true, true, true, true, true, true, true, true, true, true, true, true, true, true, true, true, true, true, true, true, false, true, true, false, false, false, false] rfl rfl (any_of HT_.out (by kernel_rfl)) (fun _ _ _ h => h) (Or.inl ⟨by rfl, ?_⟩) ?_ ?_
 rotate_left
 ·intro w'
  go_simp
  with_reducible rfl
 rotate_left
 ·simp only [Act.put, List.setIfInBounds_toArray, List.set_cons_zero, List.set_cons_succ, i64_w, i32_w]
  rfl
 refine pure_ (i := 28) (N := some 542) (v := ?_) (a' := ?_) #[true, true, true, true, true, true, true, true, true, true, true, true, true, true, true, true, true, true, true, true, true, true, true, true, true, false, true, true, true, false, false, false] rfl rfl (any_of HT_.out (by kernel_rfl)) (fun _ _ _ h => h) (Or.inl ⟨by rfl, ?_⟩) ?_ ?_
 rotate_left
 ·intro w'
  go_simp
  with_reducible rfl
 rotate_left
 ·simp only [Act.put, List.setIfInBounds_toArray, List.set_cons_zero, List.set_cons_succ, i64_w, i32_w]
  rfl
 refine take_ (i := 25) (N := some 539) (v := ?_) (a' := ?_) #[true, true, true, true, true, true, true, true, true, true, true, true, true, true, true, true, true, true, true, true, true, true, true, true, true, true, true, true, true, false, false, false] rfl rfl (take_ofW HT_.out HW_.out (by kernel_rfl)) (fun _ _ _ h => h) (Or.inl ⟨by rfl, ?_⟩) hHeld ?_ ?_
 rotate_left
 ·rintro w' ⟨s0, s1, s2, s3⟩
  go_simp
  with_reducible rfl
 rotate_left
 ·simp only [Act.put, List.setIfInBounds_toArray, List.set_cons_zero, List.set_cons_succ, i64_w, i32_w]
  rfl
 refine take_ (i := 29) (N := some 543) (v := ?_) (a' := ?_) #[true, true, true, true, true, true, true, true, true, true, true, true, true, true, true, true, true, true, true, true, true, true, true, true, true, true, true, true, true, true, false, false] rfl rfl (take_ofW HT_.out HW_.out (by kernel_rfl)) (fun _ _ _ h => h) (Or.inl ⟨by rfl, ?_⟩) hHeld ?_ ?_
 rotate_left
 ·rintro w' ⟨s0, s1, s2, s3⟩
  go_simp
  with_reducible rfl
 rotate_left
 ·simp only [Act.put, List.setIfInBounds_toArray, List.set_cons_zero, List.set_cons_succ, i64_w, i32_w]
  rfl
 refine pure_ (i := 30) (N := some 544) (v := ?_) (a' := ?_) #[true, true, true, true, true, true, true, true, true, true, true, true, true, true, true, true, true, true, true, true, true, true, true, true, true, true, true, true, true, true, true, false] rfl rfl (any_of HT_.out (by kernel_rfl)) (fun _ _ _ h => h) (Or.inl ⟨by rfl, ?_⟩) ?_ ?_
 rotate_left
 ·intro w'
  go_simp
  with_reducible rfl
 rotate_left
 ·simp only [Act.put, List.setIfInBounds_toArray, List.set_cons_zero, List.set_cons_succ, i64_w, i32_w]
  rfl
 refine pure_ (i := 31) (N := some 545) (v := ?_) (a' := ?_) #[true, true, true, true, true, true, true, true, true, true, true, true, true, true, true, true, true, true, true, true, true, true, true, true, true, true, true, true, true, true, true, true] rfl rfl (any_of HT_.out (by kernel_rfl)) (fun _ _ _ h => h) (Or.inl ⟨by rfl, ?_⟩) ?_ ?_
 rotate_left
 ·intro w'
  go_simp
  with_reducible rfl
 rotate_left
 ·simp only [Act.put, List.setIfInBounds_toArray, List.set_cons_zero, List.set_cons_succ, i64_w, i32_w]
  rfl
 refine done_ (done_of HT_.out (by kernel_rfl)) ?_
 try go_wp2
 go_ret
 exact ⟨by first | rfl | (simp [errW_none, errW_some] <;> rfl) | (simp only [← hji249]; first | rfl | (simp [errW_none, errW_some] <;> rfl)) | (simp [*, errW_none, errW_some] <;> rfl), by (apply pw_below_drewN; exact HB.out)⟩
theorem laws_FnOrdersChange.c18 : laws_FnOrdersChange.c16.2.1 := by
 intro k A0 c0 l0 A1 c1 l1 r w HR0 HC0 HR1 HC1 A3 t530 t531 A5 t532 t533 A6 t536 t537 A7 _ _ _ w9 w10 v534 w11 v538 HO535 HO539 _ _ _ HO_7 _ kj7 HJ7 _ _ kj16 HJ16 t549 t550 t551 A35 t552 t553 A36 t556 t557 A37 t560 t561 A38 t562 t563 A39 t564 t565 A40 t568 t569 A41 t570 t571 A42 t572 t573 A43 t574 t575 A44 w46 w47 v554 w48 v558 _ _ w49 Ao50 co50 _ w51 HO555 HO559 HO567 _ _ _ _ _ HO_18 _ _ kj44 HJ44 _ _ HO_27 _ kj92 HJ92 _ _ kj124 HJ124 t595 t596 A151 t597 t598 A152 t601 t602 A153 t605 t607 t608 A155 t609 A156 t612 t613 A157 t614 t615 A158 t616 t617 A159 t620 t621 A160 t624 t625 A161 t628 t629 A162 t634 t635 A163 t636 t637 A164 w166 w167 v599 w168 v603 w169 w170 w171 Ao172 co172 w173 _ w174 Ao175 co175 w176 v622 w177 v626 w178 _ Ao179 co179 Ao180 co180 HO600 HO604 HO611 HO619 HO623 HO627 HO631 HO633 _ nd _ _ _ _ _ _ _ _ _ kj164 HJ164 f_ wc HO_46 HO_54 HO_59 HO_61 HO_65 HO_66 HB kj226 HJ226 _ _ J_ K_ hK_ A154 hJ_ t642 A243 t646 A245 c246b0 c246b1 c247b0 c248b0 ji249 hji249 H hji249w c250b0 c251b0 c252
 rw [if_neg c252] at H
 have c252b0 : ((rd t597 t605) == (rd t642 (ji249))) = false := beq_eq_false_iff_ne.mpr c252
 have c252b1 : ((rd t597 t605) != (rd t642 (ji249))) = true := bne_iff_ne.mpr c252
 obtain rfl := Option.some.inj H
 try go_wp2_with (first | ((with_reducible refine gate_callee (f := 22) rfl ?_); refine goesL_ (some 511) rfl rfl Try.func22 (by kernel_rfl) rfl #[.int .i64 t595, .int .i64 (wrap64 (t596 + 1))] rfl (by (try simp only [List.map_toArray, List.map_cons, List.map_nil]); rfl) ?_; (with_reducible refine (impl_SwappedAt.calls kj226 t595 (wrap64 (t596 + 1)) t642 true _ A243.out).mono ?_); rintro e w264 ⟨v644, rfl, ho0, hb⟩; refine ⟨_, rfl, ?_⟩; have n0_ := Aside0.mk (Kd.R_elder' (HO_46.out) (Kd.R_base ho0) hb); have n1_ := Aside0.mk (Kd.R_elder' (HO_54.out) (Kd.R_base ho0) hb); have n2_ := Aside0.mk (Kd.R_elder' (HO_59.out) (Kd.R_base ho0) hb); have n3_ := Aside0.mk (Kd.R_elder' (HO_61.out) (Kd.R_base ho0) hb); have n4_ := Aside0.mk (Kd.R_elder' (HO_65.out) (Kd.R_base ho0) hb); have n5_ := Aside0.mk (Kd.R_elder' (HO_66.out) (Kd.R_base ho0) hb); have n6_ := Aside0.mk (Kd.R_lower (Kd.R_new' (Kd.R_new' (Kd.R_new' (Kd.R_new' (Kd.R_new' (Kd.R_new' ho0 (Kd.R_lt (HO_46.out))) (Kd.R_lt (HO_54.out))) (Kd.R_lt (HO_59.out))) (Kd.R_lt (HO_61.out))) (Kd.R_lt (HO_65.out))) (Kd.R_lt (HO_66.out))) (below_size (HB.out))); have n7_ := Aside0.mk (below_step (HB.out) hb); clear HO_46; clear HO_54; clear HO_59; clear HO_61; clear HO_65; clear HO_66; clear HB; have HO_46 := n0_; have HO_54 := n1_; have HO_59 := n2_; have HO_61 := n3_; have HO_65 := n4_; have HO_66 := n5_; have HO645 := n6_; have HB := n7_; clear n0_ n1_ n2_ n3_ n4_ n5_ n6_ n7_; clear hb; clear ho0))
 have n0_ := Aside0.mk (Kd.R_drew HO_46.out)
 have n1_ := Aside0.mk (Kd.R_drew HO_54.out)
 have n2_ := Aside0.mk (Kd.R_drew HO_59.out)
 have n3_ := Aside0.mk (Kd.R_drew HO_61.out)
 have n4_ := Aside0.mk (Kd.R_drew HO_65.out)
 have n5_ := Aside0.mk (Kd.R_drew HO_66.out)
 have n6_ := Aside0.mk (Kd.R_drew HO645.out)
 have n7_ := Aside0.mk (below_drew1 HB.out)
 clear HO_46
 clear HO_54
 clear HO_59
 clear HO_61
 clear HO_65
 clear HO_66
 clear HO645
 clear HB
 have HO_46 := n0_
 have HO_54 := n1_
 have HO_59 := n2_
 have HO_61 := n3_
 have HO_65 := n4_
 have HO_66 := n5_
 have HO645 := n6_
 have HB := n7_
 clear n0_ n1_ n2_ n3_ n4_ n5_ n6_ n7_
 obtain ⟨Ao266, co266, eo266⟩ := Kd.R_slice HO_46.out
 (first | subst eo266 | (injection eo266 with f1_ f2_ f3_; have f4_ := f1_.symm; have f5_ := f3_.symm; clear f1_ f2_ f3_; subst f4_; subst f5_))
 obtain ⟨Ao267, co267, eo267⟩ := Kd.R_slice HO645.out
 (first | subst eo267 | (injection eo267 with f1_ f2_ f3_; have f4_ := f1_.symm; have f5_ := f3_.symm; clear f1_ f2_ f3_; subst f4_; subst f5_))
 have p647 : 0 ≤ (t605 : Int) := of_decide_eq_true (by with_reducible assumption)
 have q647 : t605 < (t597.length : Int) := of_decide_eq_true (by with_reducible assumption)
 obtain ⟨ad647, e647, hx647_0⟩ := Kd.at_int (Kd.R_reads' HO_46.out).2.2 t605 p647 q647
 cases e647
 replace p647 := eq_true p647
 replace q647 := eq_true q647
 have p648 : 0 ≤ ((ji249) : Int) := of_decide_eq_true (by with_reducible assumption)
 have q648 : (ji249) < (t642.length : Int) := of_decide_eq_true (by with_reducible assumption)
 obtain ⟨ad648, e648, hx648_0⟩ := Kd.at_int (Kd.R_reads' HO645.out).2.2 (ji249) p648 q648
 cases e648
 replace p648 := eq_true p648
 replace q648 := eq_true q648
 refine start_ (n := 32) (S := fun w' => w'.cell? (ad647.add (t605).toNat) = some (.int .i64 (rd t597 t605)) ∧ w'.cell? (ad648.add ((ji249)).toNat) = some (.int .i64 (rd t642 (ji249)))) (ds := []) #[false, false, false, false, false, false, false, false, false, false, false, false, false, false, false, false, false, false, false, false, false, false, false, false, false, false, false, false, false, false, false, false] (by kernel_rfl) rfl rfl ⟨hx647_0, hx648_0⟩ (fun hHeld => ?_); refine with_tabW laws_FnOrdersChange.tab59 laws_FnOrdersChange.bits59 (fun HT_ HW_ => ?_)
 generalize w264.drew = w265 at HO_46 HO_54 HO_59 HO_61 HO_65 HO_66 HO645 HB hx647_0 hx648_0 hHeld ⊢
 refine pure_ (i := 0) (N := some 514) (v := ?_) (a' := ?_) #[true, false, false, false, false, false, false, false, false, false, false, false, false, false, false, false, false, false, false, false, false, false, false, false, false, false, false, false, false, false, false, false] rfl rfl (any_of HT_.out (by kernel_rfl)) (fun _ _ _ h => h) (Or.inl ⟨by rfl, ?_⟩) ?_ ?_
 rotate_left
 ·intro w'
  go_simp
  with_reducible rfl
 rotate_left
 ·simp only [Act.put, List.setIfInBounds_toArray, List.set_cons_zero, List.set_cons_succ, i64_w, i32_w]
  rfl
 refine pure_ (i := 1) (N := some 515) (v := ?_) (a' := ?_) #[true, true, false, false, false, false, false, false, false, false, false, false, false, false, false, false, false, false, false, false, false, false, false, false, false, false, false, false, false, false, false, false] rfl rfl (any_of HT_.out (by kernel_rfl)) (fun _ _ _ h => h) (Or.inl ⟨by rfl, ?_⟩) ?_ ?_
 rotate_left
 ·intro w'
  go_simp
  with_reducible rfl
 rotate_left
 ·simp only [Act.put, List.setIfInBounds_toArray, List.set_cons_zero, List.set_cons_succ, i64_w, i32_w]
  rfl
 refine pure_ (i := 2) (N := some 516) (v := ?_) (a' := ?_) #[true, true, true, false, false, false, false, false, false, false, false, false, false, false, false, false, false, false, false, false, false, false, false, false, false, false, false, false, false, false, false, false] rfl rfl (any_of HT_.out (by kernel_rfl)) (fun _ _ _ h => h) (Or.inl ⟨by rfl, ?_⟩) ?_ ?_
 rotate_left
 ·intro w'
  go_simp
  with_reducible rfl
 rotate_left
 ·simp only [Act.put, List.setIfInBounds_toArray, List.set_cons_zero, List.set_cons_succ, i64_w, i32_w]
  rfl
 refine pure_ (i := 3) (N := some 517) (v := ?_) (a' := ?_) #[true, true, true, true, false, false, false, false, false, false, false, false, false, false, false, false, false, false, false, false, false, false, false, false, false, false, false, false, false, false, false, false] rfl rfl (any_of HT_.out (by kernel_rfl)) (fun _ _ _ h => h) (Or.inl ⟨by rfl, ?_⟩) ?_ ?_
 rotate_left
 ·intro w'
  go_simp
  with_reducible rfl
 rotate_left
 ·simp only [Act.put, List.setIfInBounds_toArray, List.set_cons_zero, List.set_cons_succ, i64_w, i32_w]
  rfl
 refine pure_ (i := 4) (N := some 518) (v := ?_) (a' := ?_) #[true, true, true, true, true, false, false, false, false, false, false, false, false, false, false, false, false, false, false, false, false, false, false, false, false, false, false, false, false, false, false, false] rfl rfl (any_of HT_.out (by kernel_rfl)) (fun _ _ _ h => h) (Or.inl ⟨by rfl, ?_⟩) ?_ ?_
 rotate_left
 ·intro w'
  go_simp
  with_reducible rfl
 rotate_left
 ·simp only [Act.put, List.setIfInBounds_toArray, List.set_cons_zero, List.set_cons_succ, i64_w, i32_w]
  rfl
 refine one_ (i := 5) (N := some 519) #[true, true, true, true, true, true, false, false, false, false, false, false, false, false, false, false, false, false, false, false, false, false, false, false, false, false, false, false, false, false, false, false] rfl rfl (one_of HT_.out (by kernel_rfl)) (by decide) (fun K hK => ?_)
 refine goes_ Try.func35 (by kernel_rfl) rfl #[.slice (some ad647) t597.length co266, .slice (some ad648) t642.length co267] (by rfl) rfl rfl (by (try simp only [List.map_toArray, List.map_cons, List.map_nil]); rfl) ?_
 with_reducible refine (laws_xParts.calls kj226 _ _ t597 _ _ t642 t646 _ ?side1 ?side2 ?side3 ?side4 A245.out).mono ?_
 (case side1 => exact (Kd.R_reads' HO_46.out).2.2)
 (case side2 => exact (Kd.R_reads' HO_46.out).2.1)
 (case side3 => exact (Kd.R_reads' HO645.out).2.2)
 (case side4 => exact (Kd.R_reads' HO645.out).2.1)
 rintro e w' ⟨rfl, ⟨nd, rfl⟩⟩
 refine ⟨_, rfl, ?_⟩
 refine hK.out _ _ ⟨hHeld.1, hHeld.2⟩ (fun hHeld => ?_)
 clear hK K
 refine norm_ (a' := ?_) ?_ ?_
 rotate_left
 ·show Act.put _ (some 519) _ = _
  simp only [Act.put, List.setIfInBounds_toArray, List.set_cons_zero, List.set_cons_succ, i64_w, i32_w]
  rfl
 refine pure_ (i := 6) (N := some 520) (v := ?_) (a' := ?_) #[true, true, true, true, true, true, true, false, false, false, false, false, false, false, false, false, false, false, false, false, false, false, false, false, false, false, false, false, false, false, false, false] rfl rfl (any_of HT_.out (by kernel_rfl)) (fun _ _ _ h => h) (Or.inl ⟨by rfl, ?_⟩) ?_ ?_
 rotate_left
 ·intro w'
  go_simp
  with_reducible rfl
 rotate_left
 ·simp only [Act.put, List.setIfInBounds_toArray, List.set_cons_zero, List.set_cons_succ, i64_w, i32_w]
  rfl
 refine pure_ (i := 7) (N := some 521) (v := ?_) (a' := ?_) #[true, true, true, true, true, true, true, true, false, false, false, false, false, false, false, false, false, false, false, false, false, false, false, false, false, false, false, false, false, false, false, false] rfl rfl (any_of HT_.out (by kernel_rfl)) (fun _ _ _ h => h) (Or.inl ⟨by rfl, ?_⟩) ?_ ?_
 rotate_left
 ·intro w'
  go_simp
  with_reducible rfl
 rotate_left
 ·simp only [Act.put, List.setIfInBounds_toArray, List.set_cons_zero, List.set_cons_succ, i64_w, i32_w]
  rfl
 refine pure_ (i := 8) (N := some 522) (v := ?_) (a' := ?_) #[true, true, true, true, true, true, true, true, true, false, false, false, false, false, false, false, false, false, false, false, false, false, false, false, false, false, false, false, false, false, false, false] rfl rfl (any_of HT_.out (by kernel_rfl)) (fun _ _ _ h => h) (Or.inl ⟨by rfl, ?_⟩) ?_ ?_
 rotate_left
 ·intro w'
  go_simp
  with_reducible rfl
 rotate_left
 ·simp only [Act.put, List.setIfInBounds_toArray, List.set_cons_zero, List.set_cons_succ, i64_w, i32_w]
  rfl
 refine pure_ (i := 9) (N := some 523) (v := ?_) (a' := ?_) #[true, true, true, true, true, true, true, true, true, true, false, false, false, false, false, false, false, false, false, false, false, false, false, false, false, false, false, false, false, false, false, false] rfl rfl (any_of HT_.out (by kernel_rfl)) (fun _ _ _ h => h) (Or.inl ⟨by rfl, ?_⟩) ?_ ?_
 rotate_left
 ·intro w'
  go_simp
  with_reducible rfl
 rotate_left
 ·simp only [Act.put, List.setIfInBounds_toArray, List.set_cons_zero, List.set_cons_succ, i64_w, i32_w]
  rfl
 refine pure_ (i := 10) (N := some 524) (v := ?_) (a' := ?_) #[true, true, true, true, true, true, true, true, true, true, true, false, false, false, false, false, false, false, false, false, false, false, false, false, false, false, false, false, false, false, false, false] rfl rfl (any_of HT_.out (by kernel_rfl)) (fun _ _ _ h => h) (Or.inl ⟨by rfl, ?_⟩) ?_ ?_
 rotate_left
 ·intro w'
  go_simp
  with_reducible rfl
 rotate_left
 ·simp only [Act.put, List.setIfInBounds_toArray, List.set_cons_zero, List.set_cons_succ, i64_w, i32_w]
  rfl
 refine pure_ (i := 11) (N := some 525) (v := ?_) (a' := ?_) #[true, true, true, true, true, true, true, true, true, true, true, true, false, false, false, false, false, false, false, false, false, false, false, false, false, false, false, false, false, false, false, false] rfl rfl (any_of HT_.out (by kernel_rfl)) (fun _ _ _ h => h) (Or.inl ⟨by rfl, ?_⟩) ?_ ?_
 rotate_left
 ·intro w'
  go_simp
  with_reducible rfl
 rotate_left
 ·simp only [Act.put, List.setIfInBounds_toArray, List.set_cons_zero, List.set_cons_succ, i64_w, i32_w]
  rfl
 refine pure_ (i := 13) (N := some 527) (v := ?_) (a' := ?_) #[true, true, true, true, true, true, true, true, true, true, true, true, false, true, false, false, false, false, false, false, false, false, false, false, false, false, false, false, false, false, false, false] rfl rfl (any_of HT_.out (by kernel_rfl)) (fun _ _ _ h => h) (Or.inl ⟨by rfl, ?_⟩) ?_ ?_
 rotate_left
 ·intro w'
  go_simp
  with_reducible rfl
 rotate_left
 ·simp only [Act.put, List.setIfInBounds_toArray, List.set_cons_zero, List.set_cons_succ, i64_w, i32_w]
  rfl
 refine pure_ (i := 14) (N := some 528) (v := ?_) (a' := ?_) #[true, true, true, true, true, true, true, true, true, true, true, true, false, true, true, false, false, false, false, false, false, false, false, false, false, false, false, false, false, false, false, false] rfl rfl (any_of HT_.out (by kernel_rfl)) (fun _ _ _ h => h) (Or.inl ⟨by rfl, ?_⟩) ?_ ?_
 rotate_left
 ·intro w'
  go_simp
  with_reducible rfl
 rotate_left
 ·simp only [Act.put, List.setIfInBounds_toArray, List.set_cons_zero, List.set_cons_succ, i64_w, i32_w]
  rfl
 refine pure_ (i := 15) (N := some 529) (v := ?_) (a' := ?_) #[true, true, true, true, true, true, true, true, true, true, true, true, false, true, true, true, false, false, false, false, false, false, false, false, false, false, false, false, false, false, false, false] rfl rfl (any_of HT_.out (by kernel_rfl)) (fun _ _ _ h => h) (Or.inl ⟨by rfl, ?_⟩) ?_ ?_
 rotate_left
 ·intro w'
  go_simp
  with_reducible rfl
 rotate_left
 ·simp only [Act.put, List.setIfInBounds_toArray, List.set_cons_zero, List.set_cons_succ, i64_w, i32_w]
  rfl
 refine pure_ (i := 16) (N := some 530) (v := ?_) (a' := ?_) #[true, true, true, true, true, true, true, true, true, true, true, true, false, true, true, true, true, false, false, false, false, false, false, false, false, false, false, false, false, false, false, false] rfl rfl (any_of HT_.out (by kernel_rfl)) (fun _ _ _ h => h) (Or.inl ⟨by rfl, ?_⟩) ?_ ?_
 rotate_left
 ·intro w'
  go_simp
  with_reducible rfl
 rotate_left
 ·simp only [Act.put, List.setIfInBounds_toArray, List.set_cons_zero, List.set_cons_succ, i64_w, i32_w]
  rfl
 refine take_ (i := 12) (N := some 526) (v := ?_) (a' := ?_) #[true, true, true, true, true, true, true, true, true, true, true, true, true, true, true, true, true, false, false, false, false, false, false, false, false, false, false, false, false, false, false, false] rfl rfl (take_ofW HT_.out HW_.out (by kernel_rfl)) (fun _ _ _ h => h) (Or.inl ⟨by rfl, ?_⟩) hHeld ?_ ?_
 rotate_left
 ·rintro w' ⟨s0, s1⟩
  go_simp
  with_reducible rfl
 rotate_left
 ·simp only [Act.put, List.setIfInBounds_toArray, List.set_cons_zero, List.set_cons_succ, i64_w, i32_w]
  rfl
 refine take_ (i := 17) (N := some 531) (v := ?_) (a' := ?_) #[true, true, true, true, true, true, true, true, true, true, true, true, true, true, true, true, true, true, false, false, false, false, false, false, false, false, false, false, false, false, false, false] rfl rfl (take_ofW HT_.out HW_.out (by kernel_rfl)) (fun _ _ _ h => h) (Or.inl ⟨by rfl, ?_⟩) hHeld ?_ ?_
 rotate_left
 ·rintro w' ⟨s0, s1⟩
  go_simp
  with_reducible rfl
 rotate_left
 ·simp only [Act.put, List.setIfInBounds_toArray, List.set_cons_zero, List.set_cons_succ, i64_w, i32_w]
  rfl
 refine pure_ (i := 18) (N := some 532) (v := ?_) (a' := ?_) #[true, true, true, true, true, true, true, true, true, true, true, true, true, true, true, true, true, true, true, false, false, false, false, false, false, false, false, false, false, false, false, false] rfl rfl (any_of HT_.out (by kernel_rfl)) (fun _ _ _ h => h) (Or.inl ⟨by rfl, ?_⟩) ?_ ?_
 rotate_left
 ·intro w'
  go_simp
  with_reducible rfl
 rotate_left
 ·simp only [Act.put, List.setIfInBounds_toArray, List.set_cons_zero, List.set_cons_succ, i64_w, i32_w]
  rfl
 refine pure_ (i := 19) (N := some 533) (v := ?_) (a' := ?_) #[true, true, true, true, true, true, true, true, true, true, true, true, true, true, true, true, true, true, true, true, false, false, false, false, false, false, false, false, false, false, false, false] rfl rfl (any_of HT_.out (by kernel_rfl)) (fun _ _ _ h => h) (Or.inl ⟨by rfl, ?_⟩) ?_ ?_
 rotate_left
 ·intro w'
  go_simp
  with_reducible rfl
 rotate_left
 ·simp only [Act.put, List.setIfInBounds_toArray, List.set_cons_zero, List.set_cons_succ, i64_w, i32_w]
  rfl
 refine pure_ (i := 20) (N := some 534) (v := ?_) (a' := ?_) #[true, true, true, true, true, true, true, true, true, true, true, true, true, true, true, true, true, true, true, true, true, false, false, false, false, false, false, false, false, false, false, false] rfl rfl (any_of HT_.out (by kernel_rfl)) (fun _ _ _ h => h) (Or.inl ⟨by rfl, ?_⟩) ?_ ?_
 rotate_left
 ·intro w'
  go_simp
  with_reducible rfl
 rotate_left
 ·simp only [Act.put, List.setIfInBounds_toArray, List.set_cons_zero, List.set_cons_succ, i64_w, i32_w]
  rfl
 refine pure_ (i := 21) (N := some 535) (v := undef) (a' := ?_) #[true, true, true, true, true, true, true, true, true, true, true, true, true, true, true, true, true, true, true, true, true, true, false, false, false, false, false, false, false, false, false, false] rfl rfl (any_of HT_.out (by kernel_rfl)) (fun _ _ _ h => h) (Or.inr ⟨by rfl, rfl⟩) ?_ ?_
 rotate_left
 ·simp only [Act.put, List.setIfInBounds_toArray, List.set_cons_zero, List.set_cons_succ, i64_w, i32_w]
  rfl
 refine pure_ (i := 22) (N := some 536) (v := undef) (a' := ?_) #[true, true, true, true, true, true, true, true, true, true, true, true, true, true, true, true, true, true, true, true, true, true, true, false, false, false, false, false, false, false, false, false] rfl rfl (any_of HT_.out (by kernel_rfl)) (fun _ _ _ h => h) (Or.inr ⟨by rfl, rfl⟩) ?_ ?_
 rotate_left
 ·simp only [Act.put, List.setIfInBounds_toArray, List.set_cons_zero, List.set_cons_succ, i64_w, i32_w]
  rfl
 refine pure_ (i := 23) (N := some 537) (v := undef) (a' := ?_) #[true, true, true, true, true, true, true, true, true, true, true, true, true, true, true, true, true, true, true, true, true, true, true, true, false, false, false, false, false, false, false, false] rfl rfl (any_of HT_.out (by kernel_rfl)) (fun _ _ _ h => h) (Or.inr ⟨by rfl, rfl⟩) ?_ ?_
 rotate_left
 ·simp only [Act.put, List.setIfInBounds_toArray, List.set_cons_zero, List.set_cons_succ, i64_w, i32_w]
  rfl
 refine pure_ (i := 24) (N := some 538) (v := undef) (a' := ?_) #[true, true, true, true, true, true, true, true, true, true, true, true, true, true, true, true, true, true, true, true, true, true, true, true, true, false, false, false, false, false, false, false] rfl rfl (any_of HT_.out (by kernel_rfl)) (fun _ _ _ h => h) (Or.inr ⟨by rfl, rfl⟩) ?_ ?_
 rotate_left
 ·simp only [Act.put, List.setIfInBounds_toArray, List.set_cons_zero, List.set_cons_succ, i64_w, i32_w]
  rfl
 refine pure_ (i := 25) (N := some 539) (v := undef) (a' := ?_) #[true, true, true, true, true, true, true, true, true, true, true, true, true, true, true, true, true, true, true, true, true, true, true, true, true, true, false, false, false, false, false, false] rfl rfl (any_of HT_.out (by kernel_rfl)) (fun _ _ _ h => h) (Or.inr ⟨by rfl, rfl⟩) ?_ ?_
 rotate_left
 ·simp only [Act.put, List.setIfInBounds_toArray, List.set_cons_zero, List.set_cons_succ, i64_w, i32_w]
  rfl
 refine pure_ (i := 26) (N := some 540) (v := undef) (a' := ?_) #[true, true, true, true, true, true, true, true, true, true, true, true, true, true, true, true, true, true, true, true, true, true, true, true, true, true, true, false, false, false, false, false] rfl rfl (any_of HT_.out (by kernel_rfl)) (fun _ _ _ h => h) (Or.inr ⟨by rfl, rfl⟩) ?_ ?_
 rotate_left
 ·simp only [Act.put, List.setIfInBounds_toArray, List.set_cons_zero, List.set_cons_succ, i64_w, i32_w]
  rfl
 refine pure_ (i := 27) (N := some 541) (v := undef) (a' := ?_) #[true, true, true, true, true, true, true, true, true, true, true, true, true, true, true, true, true, true, true, true, true, true, true, true, true, true, true, true, false, false, false, false] rfl rfl (any_of HT_.out (by kernel_rfl)) (fun _ _ _ h => h) (Or.inr ⟨by rfl, rfl⟩) ?_ ?_
 rotate_left
 ·simp only [Act.put, List.setIfInBounds_toArray, List.set_cons_zero, List.set_cons_succ, i64_w, i32_w]
  rfl
 refine pure_ (i := 28) (N := some 542) (v := undef) (a' := ?_) #[true, true, true, true, true, true, true, true, true, true, true, true, true, true, true, true, true, true, true, true, true, true, true, true, true, true, true, true, true, false, false, false] rfl rfl (any_of HT_.out (by kernel_rfl)) (fun _ _ _ h => h) (Or.inr ⟨by rfl, rfl⟩) ?_ ?_
 rotate_left
 ·simp only [Act.put, List.setIfInBounds_toArray, List.set_cons_zero, List.set_cons_succ, i64_w, i32_w]
  rfl
 refine pure_ (i := 29) (N := some 543) (v := undef) (a' := ?_) #[true, true, true, true, true, true, true, true, true, true, true, true, true, true, true, true, true, true, true, true, true, true, true, true, true, true, true, true, true, true, false, false] rfl rfl (any_of HT_.out (by kernel_rfl)) (fun _ _ _ h => h) (Or.inr ⟨by rfl, rfl⟩) ?_ ?_
 rotate_left
 ·simp only [Act.put, List.setIfInBounds_toArray, List.set_cons_zero, List.set_cons_succ, i64_w, i32_w]
  rfl
 refine pure_ (i := 30) (N := some 544) (v := undef) (a' := ?_) #[true, true, true, true, true, true, true, true, true, true, true, true, true, true, true, true, true, true, true, true, true, true, true, true, true, true, true, true, true, true, true, false] rfl rfl (any_of HT_.out (by kernel_rfl)) (fun _ _ _ h => h) (Or.inr ⟨by rfl, rfl⟩) ?_ ?_
 rotate_left
 ·simp only [Act.put, List.setIfInBounds_toArray, List.set_cons_zero, List.set_cons_succ, i64_w, i32_w]
  rfl
 refine pure_ (i := 31) (N := some 545) (v := ?_) (a' := ?_) #[true, true, true, true, true, true, true, true, true, true, true, true, true, true, true, true, true, true, true, true, true, true, true, true, true, true, true, true, true, true, true, true] rfl rfl (any_of HT_.out (by kernel_rfl)) (fun _ _ _ h => h) (Or.inl ⟨by rfl, ?_⟩) ?_ ?_
 rotate_left
 ·intro w'
  go_simp
  with_reducible rfl
 rotate_left
 ·simp only [Act.put, List.setIfInBounds_toArray, List.set_cons_zero, List.set_cons_succ, i64_w, i32_w]
  rfl
 refine done_ (done_of HT_.out (by kernel_rfl)) ?_
 try go_wp2
 go_ret
 exact ⟨by first | rfl | (simp [errW_none, errW_some] <;> rfl) | (simp only [← hji249]; first | rfl | (simp [errW_none, errW_some] <;> rfl)) | (simp [*, errW_none, errW_some] <;> rfl), by (apply pw_below_drewN; exact HB.out)⟩
theorem laws_FnOrdersChange.c19 : laws_FnOrdersChange.c16.2.2.1 := by
 intro k A0 c0 l0 A1 c1 l1 r w HR0 HC0 HR1 HC1 A3 t530 t531 A5 t532 t533 A6 t536 t537 A7 _ _ _ w9 w10 v534 w11 v538 HO535 HO539 _ _ _ HO_7 _ kj7 HJ7 _ _ kj16 HJ16 t549 t550 t551 A35 t552 t553 A36 t556 t557 A37 t560 t561 A38 t562 t563 A39 t564 t565 A40 t568 t569 A41 t570 t571 A42 t572 t573 A43 t574 t575 A44 w46 w47 v554 w48 v558 _ _ w49 Ao50 co50 _ w51 HO555 HO559 HO567 _ _ _ _ _ HO_18 _ _ kj44 HJ44 _ _ HO_27 _ kj92 HJ92 _ _ kj124 HJ124 t595 t596 A151 t597 t598 A152 t601 t602 A153 t605 t607 t608 A155 t609 A156 t612 t613 A157 t614 t615 A158 t616 t617 A159 t620 t621 A160 t624 t625 A161 t628 t629 A162 t634 t635 A163 t636 t637 A164 w166 w167 v599 w168 v603 w169 w170 w171 Ao172 co172 w173 _ w174 Ao175 co175 w176 v622 w177 v626 w178 _ Ao179 co179 Ao180 co180 HO600 HO604 HO611 HO619 HO623 HO627 HO631 HO633 _ nd _ _ _ _ _ _ _ _ _ kj164 HJ164 f_ wc HO_46 HO_54 HO_59 HO_61 HO_65 HO_66 HB kj226 HJ226 _ _ J_ K_ hK_ A154 hJ_ t642 A243 t646 H A245 c246
 rw [if_neg c246] at H
 have c246b0 : (t646 == 2) = false := beq_eq_false_iff_ne.mpr c246
 have c246b1 : (t646 != 2) = true := bne_iff_ne.mpr c246
 (first | rw [c246b0] | (simp only [i64_w, i32_w]; rw [c246b0]) | skip)
 obtain rfl := Option.some.inj H
 try go_wp2_with (first | ((with_reducible refine gate_callee (f := 22) rfl ?_); refine goesL_ (some 511) rfl rfl Try.func22 (by kernel_rfl) rfl #[.int .i64 t595, .int .i64 (wrap64 (t596 + 1))] rfl (by (try simp only [List.map_toArray, List.map_cons, List.map_nil]); rfl) ?_; (with_reducible refine (impl_SwappedAt.calls kj226 t595 (wrap64 (t596 + 1)) t642 true _ A243.out).mono ?_); rintro e w268 ⟨v644, rfl, ho0, hb⟩; refine ⟨_, rfl, ?_⟩; have n0_ := Aside0.mk (Kd.R_elder' (HO_46.out) (Kd.R_base ho0) hb); have n1_ := Aside0.mk (Kd.R_elder' (HO_54.out) (Kd.R_base ho0) hb); have n2_ := Aside0.mk (Kd.R_elder' (HO_59.out) (Kd.R_base ho0) hb); have n3_ := Aside0.mk (Kd.R_elder' (HO_61.out) (Kd.R_base ho0) hb); have n4_ := Aside0.mk (Kd.R_elder' (HO_65.out) (Kd.R_base ho0) hb); have n5_ := Aside0.mk (Kd.R_elder' (HO_66.out) (Kd.R_base ho0) hb); have n6_ := Aside0.mk (Kd.R_lower (Kd.R_new' (Kd.R_new' (Kd.R_new' (Kd.R_new' (Kd.R_new' (Kd.R_new' ho0 (Kd.R_lt (HO_46.out))) (Kd.R_lt (HO_54.out))) (Kd.R_lt (HO_59.out))) (Kd.R_lt (HO_61.out))) (Kd.R_lt (HO_65.out))) (Kd.R_lt (HO_66.out))) (below_size (HB.out))); have n7_ := Aside0.mk (below_step (HB.out) hb); clear HO_46; clear HO_54; clear HO_59; clear HO_61; clear HO_65; clear HO_66; clear HB; have HO_46 := n0_; have HO_54 := n1_; have HO_59 := n2_; have HO_61 := n3_; have HO_65 := n4_; have HO_66 := n5_; have HO645 := n6_; have HB := n7_; clear n0_ n1_ n2_ n3_ n4_ n5_ n6_ n7_; clear hb; clear ho0))
 have n0_ := Aside0.mk (Kd.R_drew HO_46.out)
 have n1_ := Aside0.mk (Kd.R_drew HO_54.out)
 have n2_ := Aside0.mk (Kd.R_drew HO_59.out)
 have n3_ := Aside0.mk (Kd.R_drew HO_61.out)
 have n4_ := Aside0.mk (Kd.R_drew HO_65.out)
 have n5_ := Aside0.mk (Kd.R_drew HO_66.out)
 have n6_ := Aside0.mk (Kd.R_drew HO645.out)
 have n7_ := Aside0.mk (below_drew1 HB.out)
 clear HO_46
 clear HO_54
 clear HO_59
 clear HO_61
 clear HO_65
 clear HO_66
 clear HO645
 clear HB
 have HO_46 := n0_
 have HO_54 := n1_
 have HO_59 := n2_
 have HO_61 := n3_
 have HO_65 := n4_
 have HO_66 := n5_
 have HO645 := n6_
 have HB := n7_
 clear n0_ n1_ n2_ n3_ n4_ n5_ n6_ n7_
 obtain ⟨Ao270, co270, eo270⟩ := Kd.R_slice HO_46.out
 (first | subst eo270 | (injection eo270 with f1_ f2_ f3_; have f4_ := f1_.symm; have f5_ := f3_.symm; clear f1_ f2_ f3_; subst f4_; subst f5_))
 obtain ⟨Ao271, co271, eo271⟩ := Kd.R_slice HO645.out
 (first | subst eo271 | (injection eo271 with f1_ f2_ f3_; have f4_ := f1_.symm; have f5_ := f3_.symm; clear f1_ f2_ f3_; subst f4_; subst f5_))
 refine start_ (n := 32) (S := fun w' => True) (ds := []) #[false, false, false, false, false, false, false, false, false, false, false, false, false, false, false, false, false, false, false, false, false, false, false, false, false, false, false, false, false, false, false, false] (by kernel_rfl) rfl rfl trivial (fun hHeld => ?_); refine with_tabW laws_FnOrdersChange.tab59 laws_FnOrdersChange.bits59 (fun HT_ HW_ => ?_)
 generalize w268.drew = w269 at HO_46 HO_54 HO_59 HO_61 HO_65 HO_66 HO645 HB hHeld ⊢
 refine pure_ (i := 0) (N := some 514) (v := ?_) (a' := ?_) #[true, false, false, false, false, false, false, false, false, false, false, false, false, false, false, false, false, false, false, false, false, false, false, false, false, false, false, false, false, false, false, false] rfl rfl (any_of HT_.out (by kernel_rfl)) (fun _ _ _ h => h) (Or.inl ⟨by rfl, ?_⟩) ?_ ?_
 rotate_left
 ·intro w'
  go_simp
  with_reducible rfl
 rotate_left
 ·simp only [Act.put, List.setIfInBounds_toArray, List.set_cons_zero, List.set_cons_succ, i64_w, i32_w]
  rfl
 refine pure_ (i := 1) (N := some 515) (v := ?_) (a' := ?_) #[true, true, false, false, false, false, false, false, false, false, false, false, false, false, false, false, false, false, false, false, false, false, false, false, false, false, false, false, false, false, false, false] rfl rfl (any_of HT_.out (by kernel_rfl)) (fun _ _ _ h => h) (Or.inl ⟨by rfl, ?_⟩) ?_ ?_
 rotate_left
 ·intro w'
  go_simp
  with_reducible rfl
 rotate_left
 ·simp only [Act.put, List.setIfInBounds_toArray, List.set_cons_zero, List.set_cons_succ, i64_w, i32_w]
  rfl
 refine pure_ (i := 2) (N := some 516) (v := ?_) (a' := ?_) #[true, true, true, false, false, false, false, false, false, false, false, false, false, false, false, false, false, false, false, false, false, false, false, false, false, false, false, false, false, false, false, false] rfl rfl (any_of HT_.out (by kernel_rfl)) (fun _ _ _ h => h) (Or.inl ⟨by rfl, ?_⟩) ?_ ?_
 rotate_left
 ·intro w'
  go_simp
  with_reducible rfl
 rotate_left
 ·simp only [Act.put, List.setIfInBounds_toArray, List.set_cons_zero, List.set_cons_succ, i64_w, i32_w]
  rfl
 refine pure_ (i := 3) (N := some 517) (v := ?_) (a' := ?_) #[true, true, true, true, false, false, false, false, false, false, false, false, false, false, false, false, false, false, false, false, false, false, false, false, false, false, false, false, false, false, false, false] rfl rfl (any_of HT_.out (by kernel_rfl)) (fun _ _ _ h => h) (Or.inl ⟨by rfl, ?_⟩) ?_ ?_
 rotate_left
 ·intro w'
  go_simp
  with_reducible rfl
 rotate_left
 ·simp only [Act.put, List.setIfInBounds_toArray, List.set_cons_zero, List.set_cons_succ, i64_w, i32_w]
  rfl
 refine pure_ (i := 4) (N := some 518) (v := ?_) (a' := ?_) #[true, true, true, true, true, false, false, false, false, false, false, false, false, false, false, false, false, false, false, false, false, false, false, false, false, false, false, false, false, false, false, false] rfl rfl (any_of HT_.out (by kernel_rfl)) (fun _ _ _ h => h) (Or.inl ⟨by rfl, ?_⟩) ?_ ?_
 rotate_left
 ·intro w'
  go_simp
  with_reducible rfl
 rotate_left
 ·simp only [Act.put, List.setIfInBounds_toArray, List.set_cons_zero, List.set_cons_succ, i64_w, i32_w]
  rfl
 refine one_ (i := 5) (N := some 519) #[true, true, true, true, true, true, false, false, false, false, false, false, false, false, false, false, false, false, false, false, false, false, false, false, false, false, false, false, false, false, false, false] rfl rfl (one_of HT_.out (by kernel_rfl)) (by decide) (fun K hK => ?_)
 refine goes_ Try.func35 (by kernel_rfl) rfl #[.slice Ao270 t597.length co270, .slice Ao271 t642.length co271] (by rfl) rfl rfl (by (try simp only [List.map_toArray, List.map_cons, List.map_nil]); rfl) ?_
 with_reducible refine (laws_xParts.calls kj226 _ _ t597 _ _ t642 t646 _ ?side1 ?side2 ?side3 ?side4 A245.out).mono ?_
 (case side1 => exact (Kd.R_reads' HO_46.out).2.2)
 (case side2 => exact (Kd.R_reads' HO_46.out).2.1)
 (case side3 => exact (Kd.R_reads' HO645.out).2.2)
 (case side4 => exact (Kd.R_reads' HO645.out).2.1)
 rintro e w' ⟨rfl, ⟨nd, rfl⟩⟩
 refine ⟨_, rfl, ?_⟩
 refine hK.out _ _ trivial (fun hHeld => ?_)
 clear hK K
 refine norm_ (a' := ?_) ?_ ?_
 rotate_left
 ·show Act.put _ (some 519) _ = _
  simp only [Act.put, List.setIfInBounds_toArray, List.set_cons_zero, List.set_cons_succ, i64_w, i32_w]
  rfl
 refine pure_ (i := 6) (N := some 520) (v := ?_) (a' := ?_) #[true, true, true, true, true, true, true, false, false, false, false, false, false, false, false, false, false, false, false, false, false, false, false, false, false, false, false, false, false, false, false, false] rfl rfl (any_of HT_.out (by kernel_rfl)) (fun _ _ _ h => h) (Or.inl ⟨by rfl, ?_⟩) ?_ ?_
 rotate_left
 ·intro w'
  go_simp
  with_reducible rfl
 rotate_left
 ·simp only [Act.put, List.setIfInBounds_toArray, List.set_cons_zero, List.set_cons_succ, i64_w, i32_w]
  rfl
 refine pure_ (i := 7) (N := some 521) (v := ?_) (a' := ?_) #[true, true, true, true, true, true, true, true, false, false, false, false, false, false, false, false, false, false, false, false, false, false, false, false, false, false, false, false, false, false, false, false] rfl rfl (any_of HT_.out (by kernel_rfl)) (fun _ _ _ h => h) (Or.inl ⟨by rfl, ?_⟩) ?_ ?_
 rotate_left
 ·intro w'
  go_simp
  with_reducible rfl
 rotate_left
 ·simp only [Act.put, List.setIfInBounds_toArray, List.set_cons_zero, List.set_cons_succ, i64_w, i32_w]
  rfl
 refine pure_ (i := 8) (N := some 522) (v := ?_) (a' := ?_) #[true, true, true, true, true, true, true, true, true, false, false, false, false, false, false, false, false, false, false, false, false, false, false, false, false, false, false, false, false, false, false, false] rfl rfl (any_of HT_.out (by kernel_rfl)) (fun _ _ _ h => h) (Or.inl ⟨by rfl, ?_⟩) ?_ ?_
 rotate_left
 ·intro w'
  go_simp
  with_reducible rfl
 rotate_left
 ·simp only [Act.put, List.setIfInBounds_toArray, List.set_cons_zero, List.set_cons_succ, i64_w, i32_w]
  rfl
 refine pure_ (i := 9) (N := some 523) (v := undef) (a' := ?_) #[true, true, true, true, true, true, true, true, true, true, false, false, false, false, false, false, false, false, false, false, false, false, false, false, false, false, false, false, false, false, false, false] rfl rfl (any_of HT_.out (by kernel_rfl)) (fun _ _ _ h => h) (Or.inr ⟨by rfl, rfl⟩) ?_ ?_
 rotate_left
 ·simp only [Act.put, List.setIfInBounds_toArray, List.set_cons_zero, List.set_cons_succ, i64_w, i32_w]
  rfl
 refine pure_ (i := 10) (N := some 524) (v := undef) (a' := ?_) #[true, true, true, true, true, true, true, true, true, true, true, false, false, false, false, false, false, false, false, false, false, false, false, false, false, false, false, false, false, false, false, false] rfl rfl (any_of HT_.out (by kernel_rfl)) (fun _ _ _ h => h) (Or.inr ⟨by rfl, rfl⟩) ?_ ?_
 rotate_left
 ·simp only [Act.put, List.setIfInBounds_toArray, List.set_cons_zero, List.set_cons_succ, i64_w, i32_w]
  rfl
 refine pure_ (i := 11) (N := some 525) (v := undef) (a' := ?_) #[true, true, true, true, true, true, true, true, true, true, true, true, false, false, false, false, false, false, false, false, false, false, false, false, false, false, false, false, false, false, false, false] rfl rfl (any_of HT_.out (by kernel_rfl)) (fun _ _ _ h => h) (Or.inr ⟨by rfl, rfl⟩) ?_ ?_
 rotate_left
 ·simp only [Act.put, List.setIfInBounds_toArray, List.set_cons_zero, List.set_cons_succ, i64_w, i32_w]
  rfl
 refine pure_ (i := 12) (N := some 526) (v := undef) (a' := ?_) #[true, true, true, true, true, true, true, true, true, true, true, true, true, false, false, false, false, false, false, false, false, false, false, false, false, false, false, false, false, false, false, false] rfl rfl (any_of HT_.out (by kernel_rfl)) (fun _ _ _ h => h) (Or.inr ⟨by rfl, rfl⟩) ?_ ?_
 rotate_left
 ·simp only [Act.put, List.setIfInBounds_toArray, List.set_cons_zero, List.set_cons_succ, i64_w, i32_w]
  rfl
 refine pure_ (i := 13) (N := some 527) (v := undef) (a' := ?_) #[true, true, true, true, true, true, true, true, true, true, true, true, true, true, false, false, false, false, false, false, false, false, false, false, false, false, false, false, false, false, false, false] rfl rfl (any_of HT_.out (by kernel_rfl)) (fun _ _ _ h => h) (Or.inr ⟨by rfl, rfl⟩) ?_ ?_
 rotate_left
 ·simp only [Act.put, List.setIfInBounds_toArray, List.set_cons_zero, List.set_cons_succ, i64_w, i32_w]
  rfl
 refine pure_ (i := 14) (N := some 528) (v := undef) (a' := ?_) #[true, true, true, true, true, true, true, true, true, true, true, true, true, true, true, false, false, false, false, false, false, false, false, false, false, false, false, false, false, false, false, false] rfl rfl (any_of HT_.out (by kernel_rfl)) (fun _ _ _ h => h) (Or.inr ⟨by rfl, rfl⟩) ?_ ?_
 rotate_left
 ·simp only [Act.put, List.setIfInBounds_toArray, List.set_cons_zero, List.set_cons_succ, i64_w, i32_w]
  rfl
 refine pure_ (i := 15) (N := some 529) (v := undef) (a' := ?_) #[true, true, true, true, true, true, true, true, true, true, true, true, true, true, true, true, false, false, false, false, false, false, false, false, false, false, false, false, false, false, false, false] rfl rfl (any_of HT_.out (by kernel_rfl)) (fun _ _ _ h => h) (Or.inr ⟨by rfl, rfl⟩) ?_ ?_
 rotate_left
 ·simp only [Act.put, List.setIfInBounds_toArray, List.set_cons_zero, List.set_cons_succ, i64_w, i32_w]
  rfl
 refine pure_ (i := 16) (N := some 530) (v := undef) (a' := ?_) #[true, true, true, true, true, true, true, true, true, true, true, true, true, true, true, true, true, false, false, false, false, false, false, false, false, false, false, false, false, false, false, false] rfl rfl (any_of HT_.out (by kernel_rfl)) (fun _ _ _ h => h) (Or.inr ⟨by rfl, rfl⟩) ?_ ?_
 rotate_left
 ·simp only [Act.put, List.setIfInBounds_toArray, List.set_cons_zero, List.set_cons_succ, i64_w, i32_w]
  rfl
 refine pure_ (i := 17) (N := some 531) (v := undef) (a' := ?_) #[true, true, true, true, true, true, true, true, true, true, true, true, true, true, true, true, true, true, false, false, false, false, false, false, false, false, false, false, false, false, false, false] rfl rfl (any_of HT_.out (by kernel_rfl)) (fun _ _ _ h => h) (Or.inr ⟨by rfl, rfl⟩) ?_ ?_
 rotate_left
 ·simp only [Act.put, List.setIfInBounds_toArray, List.set_cons_zero, List.set_cons_succ, i64_w, i32_w]
  rfl
 refine pure_ (i := 18) (N := some 532) (v := undef) (a' := ?_) #[true, true, true, true, true, true, true, true, true, true, true, true, true, true, true, true, true, true, true, false, false, false, false, false, false, false, false, false, false, false, false, false] rfl rfl (any_of HT_.out (by kernel_rfl)) (fun _ _ _ h => h) (Or.inr ⟨by rfl, rfl⟩) ?_ ?_
 rotate_left
 ·simp only [Act.put, List.setIfInBounds_toArray, List.set_cons_zero, List.set_cons_succ, i64_w, i32_w]
  rfl
 refine pure_ (i := 19) (N := some 533) (v := ?_) (a' := ?_) #[true, true, true, true, true, true, true, true, true, true, true, true, true, true, true, true, true, true, true, true, false, false, false, false, false, false, false, false, false, false, false, false] rfl rfl (any_of HT_.out (by kernel_rfl)) (fun _ _ _ h => h) (Or.inl ⟨by rfl, ?_⟩) ?_ ?_
 rotate_left
 ·intro w'
  go_simp
  with_reducible rfl
 rotate_left
 ·simp only [Act.put, List.setIfInBounds_toArray, List.set_cons_zero, List.set_cons_succ, i64_w, i32_w]
  rfl
 refine pure_ (i := 20) (N := some 534) (v := ?_) (a' := ?_) #[true, true, true, true, true, true, true, true, true, true, true, true, true, true, true, true, true, true, true, true, true, false, false, false, false, false, false, false, false, false, false, false] rfl rfl (any_of HT_.out (by kernel_rfl)) (fun _ _ _ h => h) (Or.inl ⟨by rfl, ?_⟩) ?_ ?_
 rotate_left
 ·intro w'
  go_simp
  with_reducible rfl
 rotate_left
 ·simp only [Act.put, List.setIfInBounds_toArray, List.set_cons_zero, List.set_cons_succ, i64_w, i32_w]
  rfl
 refine pure_ (i := 21) (N := some 535) (v := undef) (a' := ?_) #[true, true, true, true, true, true, true, true, true, true, true, true, true, true, true, true, true, true, true, true, true, true, false, false, false, false, false, false, false, false, false, false] rfl rfl (any_of HT_.out (by kernel_rfl)) (fun _ _ _ h => h) (Or.inr ⟨by rfl, rfl⟩) ?_ ?_
 rotate_left
 ·simp only [Act.put, List.setIfInBounds_toArray, List.set_cons_zero, List.set_cons_succ, i64_w, i32_w]
  rfl
 refine pure_ (i := 22) (N := some 536) (v := undef) (a' := ?_) #[true, true, true, true, true, true, true, true, true, true, true, true, true, true, true, true, true, true, true, true, true, true, true, false, false, false, false, false, false, false, false, false] rfl rfl (any_of HT_.out (by kernel_rfl)) (fun _ _ _ h => h) (Or.inr ⟨by rfl, rfl⟩) ?_ ?_
 rotate_left
 ·simp only [Act.put, List.setIfInBounds_toArray, List.set_cons_zero, List.set_cons_succ, i64_w, i32_w]
  rfl
 refine pure_ (i := 23) (N := some 537) (v := undef) (a' := ?_) #[true, true, true, true, true, true, true, true, true, true, true, true, true, true, true, true, true, true, true, true, true, true, true, true, false, false, false, false, false, false, false, false] rfl rfl (any_of HT_.out (by kernel_rfl)) (fun _ _ _ h => h) (Or.inr ⟨by rfl, rfl⟩) ?_ ?_
 rotate_left
 ·simp only [Act.put, List.setIfInBounds_toArray, List.set_cons_zero, List.set_cons_succ, i64_w, i32_w]
  rfl
 refine pure_ (i := 24) (N := some 538) (v := undef) (a' := ?_) #[true, true, true, true, true, true, true, true, true, true, true, true, true, true, true, true, true, true, true, true, true, true, true, true, true, false, false, false, false, false, false, false] rfl rfl (any_of HT_.out (by kernel_rfl)) (fun _ _ _ h => h) (Or.inr ⟨by rfl, rfl⟩) ?_ ?_
 rotate_left
 ·simp only [Act.put, List.setIfInBounds_toArray, List.set_cons_zero, List.set_cons_succ, i64_w, i32_w]
  rfl
 refine pure_ (i := 25) (N := some 539) (v := undef) (a' := ?_) #[true, true, true, true, true, true, true, true, true, true, true, true, true, true, true, true, true, true, true, true, true, true, true, true, true, true, false, false, false, false, false, false] rfl rfl (any_of HT_.out (by kernel_rfl)) (fun _ _ _ h => h) (Or.inr ⟨by rfl, rfl⟩) ?_ ?_
 rotate_left
 ·simp only [Act.put, List.setIfInBounds_toArray, List.set_cons_zero, List.set_cons_succ, i64_w, i32_w]
  rfl
 refine pure_ (i := 26) (N := some 540) (v := undef) (a' := ?_) #[true, true, true, true, true, true, true, true, true, true, true, true, true, true, true, true, true, true, true, true, true, true, true, true, true, true, true, false, false, false, false, false] rfl rfl (any_of HT_.out (by kernel_rfl)) (fun _ _ _ h => h) (Or.inr ⟨by rfl, rfl⟩) ?_ ?_
 rotate_left
 ·simp only [Act.put, List.setIfInBounds_toArray, List.set_cons_zero, List.set_cons_succ, i64_w, i32_w]
  rfl
 refine pure_ (i := 27) (N := some 541) (v := undef) (a' := ?_) #[true, true, true, true, true, true, true, true, true, true, true, true, true, true, true, true, true, true, true, true, true, true, true, true, true, true, true, true, false, false, false, false] rfl rfl (any_of HT_.out (by kernel_rfl)) (fun _ _ _ h => h) (Or.inr ⟨by rfl, rfl⟩) ?_ ?_
 rotate_left
 ·simp only [Act.put, List.setIfInBounds_toArray, List.set_cons_zero, List.set_cons_succ, i64_w, i32_w]
  rfl
 refine pure_ (i := 28) (N := some 542) (v := undef) (a' := ?_) #[true, true, true, true, true, true, true, true, true, true, true, true, true, true, true, true, true, true, true, true, true, true, true, true, true, true, true, true, true, false, false, false] rfl rfl (any_of HT_.out (by kernel_rfl)) (fun _ _ _ h => h) (Or.inr ⟨by rfl, rfl⟩) ?_ ?_
 rotate_left
 ·simp only [Act.put, List.setIfInBounds_toArray, List.set_cons_zero, List.set_cons_succ, i64_w, i32_w]
  rfl
 refine pure_ (i := 29) (N := some 543) (v := undef) (a' := ?_) #[true, true, true, true, true, true, true, true, true, true, true, true, true, true, true, true, true, true, true, true, true, true, true, true, true, true, true, true, true, true, false, false] rfl rfl (any_of HT_.out (by kernel_rfl)) (fun _ _ _ h => h) (Or.inr ⟨by rfl, rfl⟩) ?_ ?_
 rotate_left
 ·simp only [Act.put, List.setIfInBounds_toArray, List.set_cons_zero, List.set_cons_succ, i64_w, i32_w]
  rfl
 refine pure_ (i := 30) (N := some 544) (v := undef) (a' := ?_) #[true, true, true, true, true, true, true, true, true, true, true, true, true, true, true, true, true, true, true, true, true, true, true, true, true, true, true, true, true, true, true, false] rfl rfl (any_of HT_.out (by kernel_rfl)) (fun _ _ _ h => h) (Or.inr ⟨by rfl, rfl⟩) ?_ ?_
 rotate_left
 ·simp only [Act.put, List.setIfInBounds_toArray, List.set_cons_zero, List.set_cons_succ, i64_w, i32_w]
  rfl
 refine pure_ (i := 31) (N := some 545) (v := ?_) (a' := ?_) #[true, true, true, true, true, true, true, true, true, true, true, true, true, true, true, true, true, true, true, true, true, true, true, true, true, true, true, true, true, true, true, true] rfl rfl (any_of HT_.out (by kernel_rfl)) (fun _ _ _ h => h) (Or.inl ⟨by rfl, ?_⟩) ?_ ?_
 rotate_left
 ·intro w'
  go_simp
  with_reducible rfl
 rotate_left
 ·simp only [Act.put, List.setIfInBounds_toArray, List.set_cons_zero, List.set_cons_succ, i64_w, i32_w]
  rfl
 refine done_ (done_of HT_.out (by kernel_rfl)) ?_
 try go_wp2
 go_ret
 exact ⟨by rfl, by (apply pw_below_drewN; exact HB.out)⟩
theorem laws_FnOrdersChange.c20 : laws_FnOrdersChange.c16.2.2.2.1 := by
 intro k A0 c0 l0 A1 c1 l1 r w HR0 HC0 HR1 HC1 A3 t530 t531 A5 t532 t533 A6 t536 t537 A7 _ _ _ w9 w10 v534 w11 v538 HO535 HO539 _ _ _ HO_7 _ kj7 HJ7 _ _ kj16 HJ16 t549 t550 t551 A35 t552 t553 A36 t556 t557 A37 t560 t561 A38 t562 t563 A39 t564 t565 A40 t568 t569 A41 t570 t571 A42 t572 t573 A43 t574 t575 A44 w46 w47 v554 w48 v558 _ _ w49 Ao50 co50 _ w51 HO555 HO559 HO567 _ _ _ _ _ HO_18 _ _ kj44 HJ44 _ _ HO_27 _ kj92 HJ92 _ _ kj124 HJ124 t595 t596 A151 t597 t598 A152 t601 t602 A153 t605 t607 t608 A155 t609 A156 t612 t613 A157 t614 t615 A158 t616 t617 A159 t620 t621 A160 t624 t625 A161 t628 t629 A162 t634 t635 A163 t636 t637 A164 w166 w167 v599 w168 v603 w169 w170 w171 Ao172 co172 w173 _ w174 Ao175 co175 w176 v622 w177 v626 w178 _ Ao179 co179 Ao180 co180 HO600 HO604 HO611 HO619 HO623 HO627 HO631 HO633 _ nd _ _ _ _ _ _ _ _ _ kj164 HJ164 f_ wc HO_46 HO_54 HO_59 HO_61 HO_65 HO_66 HB kj226 HJ226 _ _ J_ K_ hK_ A154 hJ_ t642 t643 H A243 c244
 replace c244 := Bool.eq_false_iff.mpr c244
 subst c244
 rw [if_neg (show ¬ (false = true) by decide)] at H
 have H1 := H
 clear H
 have H := H1
 clear H1
 obtain rfl := Option.some.inj H
 try go_wp2_with (first | ((with_reducible refine gate_callee (f := 22) rfl ?_); refine goesL_ (some 511) rfl rfl Try.func22 (by kernel_rfl) rfl #[.int .i64 t595, .int .i64 (wrap64 (t596 + 1))] rfl (by (try simp only [List.map_toArray, List.map_cons, List.map_nil]); rfl) ?_; (with_reducible refine (impl_SwappedAt.calls kj226 t595 (wrap64 (t596 + 1)) t642 false _ A243.out).mono ?_); rintro e w272 ⟨v644, rfl, ho0, hb⟩; refine ⟨_, rfl, ?_⟩; have n0_ := Aside0.mk (Kd.R_elder' (HO_46.out) (Kd.R_base ho0) hb); have n1_ := Aside0.mk (Kd.R_elder' (HO_54.out) (Kd.R_base ho0) hb); have n2_ := Aside0.mk (Kd.R_elder' (HO_59.out) (Kd.R_base ho0) hb); have n3_ := Aside0.mk (Kd.R_elder' (HO_61.out) (Kd.R_base ho0) hb); have n4_ := Aside0.mk (Kd.R_elder' (HO_65.out) (Kd.R_base ho0) hb); have n5_ := Aside0.mk (Kd.R_elder' (HO_66.out) (Kd.R_base ho0) hb); have n6_ := Aside0.mk (Kd.R_lower (Kd.R_new' (Kd.R_new' (Kd.R_new' (Kd.R_new' (Kd.R_new' (Kd.R_new' ho0 (Kd.R_lt (HO_46.out))) (Kd.R_lt (HO_54.out))) (Kd.R_lt (HO_59.out))) (Kd.R_lt (HO_61.out))) (Kd.R_lt (HO_65.out))) (Kd.R_lt (HO_66.out))) (below_size (HB.out))); have n7_ := Aside0.mk (below_step (HB.out) hb); clear HO_46; clear HO_54; clear HO_59; clear HO_61; clear HO_65; clear HO_66; clear HB; have HO_46 := n0_; have HO_54 := n1_; have HO_59 := n2_; have HO_61 := n3_; have HO_65 := n4_; have HO_66 := n5_; have HO645 := n6_; have HB := n7_; clear n0_ n1_ n2_ n3_ n4_ n5_ n6_ n7_; clear hb; clear ho0))
 have n0_ := Aside0.mk (Kd.R_drew HO_46.out)
 have n1_ := Aside0.mk (Kd.R_drew HO_54.out)
 have n2_ := Aside0.mk (Kd.R_drew HO_59.out)
 have n3_ := Aside0.mk (Kd.R_drew HO_61.out)
 have n4_ := Aside0.mk (Kd.R_drew HO_65.out)
 have n5_ := Aside0.mk (Kd.R_drew HO_66.out)
 have n6_ := Aside0.mk (Kd.R_drew HO645.out)
 have n7_ := Aside0.mk (below_drew1 HB.out)
 clear HO_46
 clear HO_54
 clear HO_59
 clear HO_61
 clear HO_65
 clear HO_66
 clear HO645
 clear HB
 have HO_46 := n0_
 have HO_54 := n1_
 have HO_59 := n2_
 have HO_61 := n3_
 have HO_65 := n4_
 have HO_66 := n5_
 have HO645 := n6_
 have HB := n7_
 clear n0_ n1_ n2_ n3_ n4_ n5_ n6_ n7_
 refine start_ (n := 32) (S := fun w' => True) (ds := []) #[false, false, false, false, false, false, false, false, false, false, false, false, false, false, false, false, false, false, false, false, false, false, false, false, false, false, false, false, false, false, false, false] (by kernel_rfl) rfl rfl trivial (fun hHeld => ?_); refine with_tabW laws_FnOrdersChange.tab59 laws_FnOrdersChange.bits59 (fun HT_ HW_ => ?_)
 generalize w272.drew = w273 at HO_46 HO_54 HO_59 HO_61 HO_65 HO_66 HO645 HB hHeld ⊢
 refine pure_ (i := 0) (N := some 514) (v := ?_) (a' := ?_) #[true, false, false, false, false, false, false, false, false, false, false, false, false, false, false, false, false, false, false, false, false, false, false, false, false, false, false, false, false, false, false, false] rfl rfl (any_of HT_.out (by kernel_rfl)) (fun _ _ _ h => h) (Or.inl ⟨by rfl, ?_⟩) ?_ ?_
 rotate_left
 ·intro w'
  go_simp
  with_reducible rfl
 rotate_left
 ·simp only [Act.put, List.setIfInBounds_toArray, List.set_cons_zero, List.set_cons_succ, i64_w, i32_w]
  rfl
 refine pure_ (i := 1) (N := some 515) (v := ?_) (a' := ?_) #[true, true, false, false, false, false, false, false, false, false, false, false, false, false, false, false, false, false, false, false, false, false, false, false, false, false, false, false, false, false, false, false] rfl rfl (any_of HT_.out (by kernel_rfl)) (fun _ _ _ h => h) (Or.inl ⟨by rfl, ?_⟩) ?_ ?_
 rotate_left
 ·intro w'
  go_simp
  with_reducible rfl
 rotate_left
 ·simp only [Act.put, List.setIfInBounds_toArray, List.set_cons_zero, List.set_cons_succ, i64_w, i32_w]
  rfl
 refine pure_ (i := 2) (N := some 516) (v := ?_) (a' := ?_) #[true, true, true, false, false, false, false, false, false, false, false, false, false, false, false, false, false, false, false, false, false, false, false, false, false, false, false, false, false, false, false, false] rfl rfl (any_of HT_.out (by kernel_rfl)) (fun _ _ _ h => h) (Or.inl ⟨by rfl, ?_⟩) ?_ ?_
 rotate_left
 ·intro w'
  go_simp
  with_reducible rfl
 rotate_left
 ·simp only [Act.put, List.setIfInBounds_toArray, List.set_cons_zero, List.set_cons_succ, i64_w, i32_w]
  rfl
 refine pure_ (i := 3) (N := some 517) (v := undef) (a' := ?_) #[true, true, true, true, false, false, false, false, false, false, false, false, false, false, false, false, false, false, false, false, false, false, false, false, false, false, false, false, false, false, false, false] rfl rfl (any_of HT_.out (by kernel_rfl)) (fun _ _ _ h => h) (Or.inr ⟨by rfl, rfl⟩) ?_ ?_
 rotate_left
 ·simp only [Act.put, List.setIfInBounds_toArray, List.set_cons_zero, List.set_cons_succ, i64_w, i32_w]
  rfl
 refine pure_ (i := 4) (N := some 518) (v := undef) (a' := ?_) #[true, true, true, true, true, false, false, false, false, false, false, false, false, false, false, false, false, false, false, false, false, false, false, false, false, false, false, false, false, false, false, false] rfl rfl (any_of HT_.out (by kernel_rfl)) (fun _ _ _ h => h) (Or.inr ⟨by rfl, rfl⟩) ?_ ?_
 rotate_left
 ·simp only [Act.put, List.setIfInBounds_toArray, List.set_cons_zero, List.set_cons_succ, i64_w, i32_w]
  rfl
 refine pure_ (i := 5) (N := some 519) (v := undef) (a' := ?_) #[true, true, true, true, true, true, false, false, false, false, false, false, false, false, false, false, false, false, false, false, false, false, false, false, false, false, false, false, false, false, false, false] rfl rfl (any_of HT_.out (by kernel_rfl)) (fun _ _ _ h => h) (Or.inr ⟨by rfl, rfl⟩) ?_ ?_
 rotate_left
 ·simp only [Act.put, List.setIfInBounds_toArray, List.set_cons_zero, List.set_cons_succ, i64_w, i32_w]
  rfl
 refine pure_ (i := 6) (N := some 520) (v := undef) (a' := ?_) #[true, true, true, true, true, true, true, false, false, false, false, false, false, false, false, false, false, false, false, false, false, false, false, false, false, false, false, false, false, false, false, false] rfl rfl (any_of HT_.out (by kernel_rfl)) (fun _ _ _ h => h) (Or.inr ⟨by rfl, rfl⟩) ?_ ?_
 rotate_left
 ·simp only [Act.put, List.setIfInBounds_toArray, List.set_cons_zero, List.set_cons_succ, i64_w, i32_w]
  rfl
 refine pure_ (i := 7) (N := some 521) (v := ?_) (a' := ?_) #[true, true, true, true, true, true, true, true, false, false, false, false, false, false, false, false, false, false, false, false, false, false, false, false, false, false, false, false, false, false, false, false] rfl rfl (any_of HT_.out (by kernel_rfl)) (fun _ _ _ h => h) (Or.inl ⟨by rfl, ?_⟩) ?_ ?_
 rotate_left
 ·intro w'
  go_simp
  with_reducible rfl
 rotate_left
 ·simp only [Act.put, List.setIfInBounds_toArray, List.set_cons_zero, List.set_cons_succ, i64_w, i32_w]
  rfl
 refine pure_ (i := 8) (N := some 522) (v := ?_) (a' := ?_) #[true, true, true, true, true, true, true, true, true, false, false, false, false, false, false, false, false, false, false, false, false, false, false, false, false, false, false, false, false, false, false, false] rfl rfl (any_of HT_.out (by kernel_rfl)) (fun _ _ _ h => h) (Or.inl ⟨by rfl, ?_⟩) ?_ ?_
 rotate_left
 ·intro w'
  go_simp
  with_reducible rfl
 rotate_left
 ·simp only [Act.put, List.setIfInBounds_toArray, List.set_cons_zero, List.set_cons_succ, i64_w, i32_w]
  rfl
 refine pure_ (i := 9) (N := some 523) (v := undef) (a' := ?_) #[true, true, true, true, true, true, true, true, true, true, false, false, false, false, false, false, false, false, false, false, false, false, false, false, false, false, false, false, false, false, false, false] rfl rfl (any_of HT_.out (by kernel_rfl)) (fun _ _ _ h => h) (Or.inr ⟨by rfl, rfl⟩) ?_ ?_
 rotate_left
 ·simp only [Act.put, List.setIfInBounds_toArray, List.set_cons_zero, List.set_cons_succ, i64_w, i32_w]
  rfl
 refine pure_ (i := 10) (N := some 524) (v := undef) (a' := ?_) #[true, true, true, true, true, true, true, true, true, true, true, false, false, false, false, false, false, false, false, false, false, false, false, false, false, false, false, false, false, false, false, false] rfl rfl (any_of HT_.out (by kernel_rfl)) (fun _ _ _ h => h) (Or.inr ⟨by rfl, rfl⟩) ?_ ?_
 rotate_left
 ·simp only [Act.put, List.setIfInBounds_toArray, List.set_cons_zero, List.set_cons_succ, i64_w, i32_w]
  rfl
 refine pure_ (i := 11) (N := some 525) (v := undef) (a' := ?_) #[true, true, true, true, true, true, true, true, true, true, true, true, false, false, false, false, false, false, false, false, false, false, false, false, false, false, false, false, false, false, false, false] rfl rfl (any_of HT_.out (by kernel_rfl)) (fun _ _ _ h => h) (Or.inr ⟨by rfl, rfl⟩) ?_ ?_
 rotate_left
 ·simp only [Act.put, List.setIfInBounds_toArray, List.set_cons_zero, List.set_cons_succ, i64_w, i32_w]
  rfl
 refine pure_ (i := 12) (N := some 526) (v := undef) (a' := ?_) #[true, true, true, true, true, true, true, true, true, true, true, true, true, false, false, false, false, false, false, false, false, false, false, false, false, false, false, false, false, false, false, false] rfl rfl (any_of HT_.out (by kernel_rfl)) (fun _ _ _ h => h) (Or.inr ⟨by rfl, rfl⟩) ?_ ?_
 rotate_left
 ·simp only [Act.put, List.setIfInBounds_toArray, List.set_cons_zero, List.set_cons_succ, i64_w, i32_w]
  rfl
 refine pure_ (i := 13) (N := some 527) (v := undef) (a' := ?_) #[true, true, true, true, true, true, true, true, true, true, true, true, true, true, false, false, false, false, false, false, false, false, false, false, false, false, false, false, false, false, false, false] rfl rfl (any_of HT_.out (by kernel_rfl)) (fun _ _ _ h => h) (Or.inr ⟨by rfl, rfl⟩) ?_ ?_
 rotate_left
 ·simp only [Act.put, List.setIfInBounds_toArray, List.set_cons_zero, List.set_cons_succ, i64_w, i32_w]
  rfl
 refine pure_ (i := 14) (N := some 528) (v := undef) (a' := ?_) #[true, true, true, true, true, true, true, true, true, true, true, true, true, true, true, false, false, false, false, false, false, false, false, false, false, false, false, false, false, false, false, false] rfl rfl (any_of HT_.out (by kernel_rfl)) (fun _ _ _ h => h) (Or.inr ⟨by rfl, rfl⟩) ?_ ?_
 rotate_left
 ·simp only [Act.put, List.setIfInBounds_toArray, List.set_cons_zero, List.set_cons_succ, i64_w, i32_w]
  rfl
 refine pure_ (i := 15) (N := some 529) (v := undef) (a' := ?_) #[true, true, true, true, true, true, true, true, true, true, true, true, true, true, true, true, false, false, false, false, false, false, false, false, false, false, false, false, false, false, false, false] rfl rfl (any_of HT_.out (by kernel_rfl)) (fun _ _ _ h => h) (Or.inr ⟨by rfl, rfl⟩) ?_ ?_
 rotate_left
 ·simp only [Act.put, List.setIfInBounds_toArray, List.set_cons_zero, List.set_cons_succ, i64_w, i32_w]
  rfl
 refine pure_ (i := 16) (N := some 530) (v := undef) (a' := ?_) #[true, true, true, true, true, true, true, true, true, true, true, true, true, true, true, true, true, false, false, false, false, false, false, false, false, false, false, false, false, false, false, false] rfl rfl (any_of HT_.out (by kernel_rfl)) (fun _ _ _ h => h) (Or.inr ⟨by rfl, rfl⟩) ?_ ?_
 rotate_left
 ·simp only [Act.put, List.setIfInBounds_toArray, List.set_cons_zero, List.set_cons_succ, i64_w, i32_w]
  rfl
 refine pure_ (i := 17) (N := some 531) (v := undef) (a' := ?_) #[true, true, true, true, true, true, true, true, true, true, true, true, true, true, true, true, true, true, false, false, false, false, false, false, false, false, false, false, false, false, false, false] rfl rfl (any_of HT_.out (by kernel_rfl)) (fun _ _ _ h => h) (Or.inr ⟨by rfl, rfl⟩) ?_ ?_
 rotate_left
 ·simp only [Act.put, List.setIfInBounds_toArray, List.set_cons_zero, List.set_cons_succ, i64_w, i32_w]
  rfl
 refine pure_ (i := 18) (N := some 532) (v := undef) (a' := ?_) #[true, true, true, true, true, true, true, true, true, true, true, true, true, true, true, true, true, true, true, false, false, false, false, false, false, false, false, false, false, false, false, false] rfl rfl (any_of HT_.out (by kernel_rfl)) (fun _ _ _ h => h) (Or.inr ⟨by rfl, rfl⟩) ?_ ?_
 rotate_left
 ·simp only [Act.put, List.setIfInBounds_toArray, List.set_cons_zero, List.set_cons_succ, i64_w, i32_w]
  rfl
 refine pure_ (i := 19) (N := some 533) (v := ?_) (a' := ?_) #[true, true, true, true, true, true, true, true, true, true, true, true, true, true, true, true, true, true, true, true, false, false, false, false, false, false, false, false, false, false, false, false] rfl rfl (any_of HT_.out (by kernel_rfl)) (fun _ _ _ h => h) (Or.inl ⟨by rfl, ?_⟩) ?_ ?_
 rotate_left
 ·intro w'
  go_simp
  with_reducible rfl
 rotate_left
 ·simp only [Act.put, List.setIfInBounds_toArray, List.set_cons_zero, List.set_cons_succ, i64_w, i32_w]
  rfl
 refine pure_ (i := 20) (N := some 534) (v := ?_) (a' := ?_) #[true, true, true, true, true, true, true, true, true, true, true, true, true, true, true, true, true, true, true, true, true, false, false, false, false, false, false, false, false, false, false, false] rfl rfl (any_of HT_.out (by kernel_rfl)) (fun _ _ _ h => h) (Or.inl ⟨by rfl, ?_⟩) ?_ ?_
 rotate_left
 ·intro w'
  go_simp
  with_reducible rfl
 rotate_left
 ·simp only [Act.put, List.setIfInBounds_toArray, List.set_cons_zero, List.set_cons_succ, i64_w, i32_w]
  rfl
 refine pure_ (i := 21) (N := some 535) (v := undef) (a' := ?_) #[true, true, true, true, true, true, true, true, true, true, true, true, true, true, true, true, true, true, true, true, true, true, false, false, false, false, false, false, false, false, false, false] rfl rfl (any_of HT_.out (by kernel_rfl)) (fun _ _ _ h => h) (Or.inr ⟨by rfl, rfl⟩) ?_ ?_
 rotate_left
 ·simp only [Act.put, List.setIfInBounds_toArray, List.set_cons_zero, List.set_cons_succ, i64_w, i32_w]
  rfl
 refine pure_ (i := 22) (N := some 536) (v := undef) (a' := ?_) #[true, true, true, true, true, true, true, true, true, true, true, true, true, true, true, true, true, true, true, true, true, true, true, false, false, false, false, false, false, false, false, false] rfl rfl (any_of HT_.out (by kernel_rfl)) (fun _ _ _ h => h) (Or.inr ⟨by rfl, rfl⟩) ?_ ?_
 rotate_left
 ·simp only [Act.put, List.setIfInBounds_toArray, List.set_cons_zero, List.set_cons_succ, i64_w, i32_w]
  rfl
 refine pure_ (i := 23) (N := some 537) (v := undef) (a' := ?_) #[true, true, true, true, true, true, true, true, true, true, true, true, true, true, true, true, true, true, true, true, true, true, true, true, false, false, false, false, false, false, false, false] rfl rfl (any_of HT_.out (by kernel_rfl)) (fun _ _ _ h => h) (Or.inr ⟨by rfl, rfl⟩) ?_ ?_
 rotate_left
 ·simp only [Act.put, List.setIfInBounds_toArray, List.set_cons_zero, List.set_cons_succ, i64_w, i32_w]
  rfl
 refine pure_ (i := 24) (N := some 538) (v := undef) (a' := ?_) #[true, true, true, true, true, true, true, true, true, true, true, true, true, true, true, true, true, true, true, true, true, true, true, true, true, false, false, false, false, false, false, false] rfl rfl (any_of HT_.out (by kernel_rfl)) (fun _ _ _ h => h) (Or.inr ⟨by rfl, rfl⟩) ?_ ?_
 rotate_left
 ·simp only [Act.put, List.setIfInBounds_toArray, List.set_cons_zero, List.set_cons_succ, i64_w, i32_w]
  rfl
 refine pure_ (i := 25) (N := some 539) (v := undef) (a' := ?_) #[true, true, true, true, true, true, true, true, true, true, true, true, true, true, true, true, true, true, true, true, true, true, true, true, true, true, false, false, false, false, false, false] rfl rfl (any_of HT_.out (by kernel_rfl)) (fun _ _ _ h => h) (Or.inr ⟨by rfl, rfl⟩) ?_ ?_
 rotate_left
 ·simp only [Act.put, List.setIfInBounds_toArray, List.set_cons_zero, List.set_cons_succ, i64_w, i32_w]
  rfl
 refine pure_ (i := 26) (N := some 540) (v := undef) (a' := ?_) #[true, true, true, true, true, true, true, true, true, true, true, true, true, true, true, true, true, true, true, true, true, true, true, true, true, true, true, false, false, false, false, false] rfl rfl (any_of HT_.out (by kernel_rfl)) (fun _ _ _ h => h) (Or.inr ⟨by rfl, rfl⟩) ?_ ?_
 rotate_left
 ·simp only [Act.put, List.setIfInBounds_toArray, List.set_cons_zero, List.set_cons_succ, i64_w, i32_w]
  rfl
 refine pure_ (i := 27) (N := some 541) (v := undef) (a' := ?_) #[true, true, true, true, true, true, true, true, true, true, true, true, true, true, true, true, true, true, true, true, true, true, true, true, true, true, true, true, false, false, false, false] rfl rfl (any_of HT_.out (by kernel_rfl)) (fun _ _ _ h => h) (Or.inr ⟨by rfl, rfl⟩) ?_ ?_
 rotate_left
 ·simp only [Act.put, List.setIfInBounds_toArray, List.set_cons_zero, List.set_cons_succ, i64_w, i32_w]
  rfl
 refine pure_ (i := 28) (N := some 542) (v := undef) (a' := ?_) #[true, true, true, true, true, true, true, true, true, true, true, true, true, true, true, true, true, true, true, true, true, true, true, true, true, true, true, true, true, false, false, false] rfl rfl (any_of HT_.out (by kernel_rfl)) (fun _ _ _ h => h) (Or.inr ⟨by rfl, rfl⟩) ?_ ?_
 rotate_left
 ·simp only [Act.put, List.setIfInBounds_toArray, List.set_cons_zero, List.set_cons_succ, i64_w, i32_w]
  rfl
 refine pure_ (i := 29) (N := some 543) (v := undef) (a' := ?_) #[true, true, true, true, true, true, true, true, true, true, true, true, true, true, true, true, true, true, true, true, true, true, true, true, true, true, true, true, true, true, false, false] rfl rfl (any_of HT_.out (by kernel_rfl)) (fun _ _ _ h => h) (Or.inr ⟨by rfl, rfl⟩) ?_ ?_
 rotate_left
 ·simp only [Act.put, List.setIfInBounds_toArray, List.set_cons_zero, List.set_cons_succ, i64_w, i32_w]
  rfl
 refine pure_ (i := 30) (N := some 544) (v := undef) (a' := ?_) #[true, true, true, true, true, true, true, true, true, true, true, true, true, true, true, true, true, true, true, true, true, true, true, true, true, true, true, true, true, true, true, false] rfl rfl (any_of HT_.out (by kernel_rfl)) (fun _ _ _ h => h) (Or.inr ⟨by rfl, rfl⟩) ?_ ?_
 rotate_left
 ·simp only [Act.put, List.setIfInBounds_toArray, List.set_cons_zero, List.set_cons_succ, i64_w, i32_w]
  rfl
 refine pure_ (i := 31) (N := some 545) (v := ?_) (a' := ?_) #[true, true, true, true, true, true, true, true, true, true, true, true, true, true, true, true, true, true, true, true, true, true, true, true, true, true, true, true, true, true, true, true] rfl rfl (any_of HT_.out (by kernel_rfl)) (fun _ _ _ h => h) (Or.inl ⟨by rfl, ?_⟩) ?_ ?_
 rotate_left
 ·intro w'
  go_simp
  with_reducible rfl
 rotate_left
 ·simp only [Act.put, List.setIfInBounds_toArray, List.set_cons_zero, List.set_cons_succ, i64_w, i32_w]
  rfl
 refine done_ (done_of HT_.out (by kernel_rfl)) ?_
 try go_wp2
 go_ret
 exact ⟨by rfl, HB.out⟩
def laws_FnOrdersChange.c21 : PSigma fun P0_ : Prop => PSigma fun P1_ : Prop => Hole P0_ → Hole P1_ → laws_FnOrdersChange.c15.2.1 := by
 refine' ⟨_, _, fun HP0_ HP1_ => _⟩
 rotate_left 2
 intro k A0 c0 l0 A1 c1 l1 r w HR0 HC0 HR1 HC1 A3 t530 t531 A5 t532 t533 A6 t536 t537 A7 _ _ _ w9 w10 v534 w11 v538 HO535 HO539 _ _ _ HO_7 _ kj7 HJ7 _ _ kj16 HJ16 t549 t550 t551 A35 t552 t553 A36 t556 t557 A37 t560 t561 A38 t562 t563 A39 t564 t565 A40 t568 t569 A41 t570 t571 A42 t572 t573 A43 t574 t575 A44 w46 w47 v554 w48 v558 _ _ w49 Ao50 co50 _ w51 HO555 HO559 HO567 _ _ _ _ _ HO_18 _ _ kj44 HJ44 _ _ HO_27 _ kj92 HJ92 _ _ kj124 HJ124 t595 t596 A151 t597 t598 A152 t601 t602 A153 t605 t606 A154 t607 t608 A155 t609 A156 t612 t613 A157 t614 t615 A158 t616 t617 A159 t620 t621 A160 t624 t625 A161 t628 t629 A162 t634 t635 A163 t636 t637 A164 w166 w167 v599 w168 v603 w169 w170 w171 Ao172 co172 w173 _ w174 Ao175 co175 w176 v622 w177 v626 w178 _ Ao179 co179 Ao180 co180 HO600 HO604 HO611 HO619 HO623 HO627 HO631 HO633 _ nd _ _ _ _ _ _ _ _ _ kj164 HJ164 _ _ HO_46 HO_54 HO_59 HO_61 HO_65 HO_66 HB kj226 HJ226 HC241 _ _ f_ wc hcut
 clear HC241
 try clear c2
 try clear p2
 try clear c3
 try clear p6
 try clear c22
 try clear c24
 try clear c25
 try clear c35
 try clear p64
 try clear c242
 try clear c244
 try clear c246
 try clear c246b0
 try clear c246b1
 try clear c247
 try clear c248
 try clear c250
 try clear c251
 obtain ⟨kq, HA, HJ240, HO_54, HO_59, HO_61, HO_65, HO_66, HB⟩ := hcut
 cases kq with
 | zero => exact absurd HA.out (by simp [laws_FnOrdersChange.j8])
 | succ kj240 =>
  have H := HA.out
  clear HA
  simp only [laws_FnOrdersChange.j8] at H
  have HC274 := Aside0.mk H
  clear H
  go_upto_if 546 with (fail)
  refine wp_cutF [o_,o_,o_,o_,i_,o_,o_,o_,o_,o_,o_,o_,o_,o_,o_,o_,o_,o_,o_,o_,o_,o_,o_,o_,o_,o_,o_,o_,o_,o_,o_,o_,o_,o_,o_,o_,o_,o_,o_,o_,o_,o_,o_,o_,o_,o_,o_,o_,o_,o_,o_,o_,o_,o_,o_,o_,o_,o_,o_,o_,o_,o_,o_,o_,o_,o_,o_,o_,o_,o_,o_,o_,o_,o_,o_,i_,i_,o_,o_,o_,o_,o_,o_,i_,i_,i_,i_,i_,i_,i_,i_,i_,i_,i_,i_,i_,i_,i_,i_,i_,i_,i_,i_,i_,i_,i_,i_,i_,i_,i_,i_,i_,i_,i_,i_,i_,i_,i_,i_,i_,i_,i_,i_,i_,i_,i_,i_,i_,i_,i_,i_,i_,i_,i_,i_,i_,i_,i_,i_,i_,i_,i_,i_,i_,i_,i_,i_,i_,i_,i_,i_,i_,i_,i_,i_,i_,i_,i_,i_,i_,i_,i_,i_,i_,i_,i_,i_,i_,i_,i_,i_,i_,i_,i_,i_,i_,i_,i_,i_,i_,i_,i_,i_,i_,i_,i_,i_,i_,i_,i_,i_,i_,i_,i_,i_,i_,i_,i_,i_,i_,i_,i_,i_,i_,i_,i_,i_,i_,i_,i_,i_,i_,i_,i_,i_,i_,i_,i_,i_,i_,i_,i_,i_,i_,i_,i_,i_,i_,i_,i_,i_,i_,i_,i_,i_,i_,i_,i_,i_,i_,i_,i_,i_,i_,i_,i_,i_,i_,i_,i_,i_,i_,i_,i_,i_,i_,i_,i_,i_,i_,i_,i_,i_,i_,i_,i_,i_,i_,i_,i_,i_,i_,i_,i_,i_,i_,i_,i_,i_,i_,i_,i_,i_,i_,i_,i_,i_,i_,i_,i_,i_,i_,i_,i_,i_,i_,i_,i_,i_,i_,i_,i_,i_,i_,i_,i_,i_,i_,i_,i_,i_,i_,i_,i_,i_,i_,i_,i_,i_,i_,i_,i_,i_,i_,i_,i_,i_,i_,i_,i_,i_,i_,i_,i_,i_,i_,i_,i_,i_,i_,i_,i_,i_,i_,i_,i_,i_,i_,i_,i_,i_,i_,i_,i_,i_,i_,i_,i_,i_,i_,i_,i_,i_,i_,i_,i_,i_,i_,i_,i_,i_,i_,i_,i_,i_,i_,i_,i_,i_,i_,i_,i_,i_,i_,i_,i_,i_,i_,i_,i_,i_,i_,i_,i_,i_,i_,i_,i_,i_,i_,i_,i_,i_,i_,i_,i_,i_,i_,i_,i_,i_,i_,i_,i_,i_,i_,i_,i_,i_,i_,i_,i_,i_,i_,i_,i_,i_,i_,i_,i_,i_,i_,i_,i_,i_,i_,i_,i_,i_,i_,i_,i_,i_,i_,i_,i_,i_,i_,i_,i_,i_,i_,i_,i_,i_,i_,i_,i_,i_,i_,i_,i_,i_,i_,i_,i_,i_,i_,i_,i_,i_,i_,i_,i_,i_,i_,i_,i_,i_,i_,i_,i_,i_,i_,i_,i_,i_,i_,i_,i_,i_,i_,i_,i_,i_,i_,i_,i_,i_,i_,i_,i_,i_,i_,i_,i_,i_,i_,i_,i_,i_,i_,i_,i_,i_,i_,i_,i_,i_,i_,i_,i_,i_,i_,i_,i_,i_,i_,i_,i_,i_,i_,i_,i_,i_,i_,i_,i_,i_,i_,i_,i_,i_,i_,i_,i_,i_,i_,i_,i_,i_,i_,i_,i_,i_,i_,i_,i_,i_,i_,i_,i_,i_,i_,i_,i_,i_,i_,i_,i_,i_,i_,i_,i_,i_,i_,i_,i_,i_,i_,i_,i_,i_,i_,i_,i_,i_,i_,i_,i_,i_,i_,i_,i_,i_,i_,i_,i_,i_,i_,i_,i_,i_,i_,i_] (fun f_ wc => ∃ (kq : Nat), Aside0 (laws_FnOrdersChange.j9 kq t616 t617 t620 t621 t628 t629 t634 t635 = some r) ∧ Aside0 (kq ≤ kj240) ∧ Aside0 (Kd.R (Kd.int .i64) 3 wc w.heap.size (fun k_ => some k_ ≠ (v622 : Value).ownBlock ∧ some k_ ≠ ((.slice Ao179 t628.length co179) : Value).ownBlock ∧ some k_ ≠ ((.slice Ao180 t629.length co180) : Value).ownBlock) (.slice Ao175 t616.length co175) t616) ∧ Aside0 (Kd.R (Kd.int .i64) 3 wc w.heap.size (fun k_ => some k_ ≠ ((.slice Ao175 t616.length co175) : Value).ownBlock ∧ some k_ ≠ ((.slice Ao179 t628.length co179) : Value).ownBlock ∧ some k_ ≠ ((.slice Ao180 t629.length co180) : Value).ownBlock) v622 t620) ∧ Aside0 (Kd.R (Kd.int .i64) 3 wc w.heap.size (fun k_ => some k_ ≠ ((.slice Ao175 t616.length co175) : Value).ownBlock ∧ some k_ ≠ (v622 : Value).ownBlock ∧ some k_ ≠ ((.slice Ao180 t629.length co180) : Value).ownBlock) (.slice Ao179 t628.length co179) t628) ∧ Aside0 (Kd.R (Kd.int .i64) 3 wc w.heap.size (fun k_ => some k_ ≠ ((.slice Ao175 t616.length co175) : Value).ownBlock ∧ some k_ ≠ (v622 : Value).ownBlock ∧ some k_ ≠ ((.slice Ao179 t628.length co179) : Value).ownBlock) (.slice Ao180 t629.length co180) t629) ∧ Aside0 (Below w.heap.size w wc)) ?rest ?first
  case first =>
   intro J_ K_ hJ_ hK_
   repeat revert ‹_›
   intro HP0_ HP1_
   exact HP0_.out
  case rest =>
   intro f_ wc hcut
   dsimp only [maskF] at hcut ⊢
   repeat revert ‹_›
   intro HP0_ HP1_
   exact HP1_.out
theorem laws_FnOrdersChange.c22 : laws_FnOrdersChange.c21.1 := by
 intro k A0 c0 l0 A1 c1 l1 r w HR0 HC0 HR1 HC1 A3 t530 t531 A5 t532 t533 A6 t536 t537 A7 _ _ _ w9 w10 v534 w11 v538 HO535 HO539 _ _ _ HO_7 _ kj7 HJ7 _ _ kj16 HJ16 t549 t550 t551 A35 t552 t553 A36 t556 t557 A37 t560 t561 A38 t562 t563 A39 t564 t565 A40 t568 t569 A41 t570 t571 A42 t572 t573 A43 t574 t575 A44 w46 w47 v554 w48 v558 _ _ w49 Ao50 co50 _ w51 HO555 HO559 HO567 _ _ _ _ _ HO_18 _ _ kj44 HJ44 _ _ HO_27 _ kj92 HJ92 _ _ kj124 HJ124 t595 t596 A151 t597 t598 A152 t601 t602 A153 t605 t606 A154 t607 t608 A155 t609 A156 t612 t613 A157 t614 t615 A158 t616 t617 A159 t620 t621 A160 t624 t625 A161 t628 t629 A162 t634 t635 A163 t636 t637 A164 w166 w167 v599 w168 v603 w169 w170 w171 Ao172 co172 w173 _ w174 Ao175 co175 w176 v622 w177 v626 w178 _ Ao179 co179 Ao180 co180 HO600 HO604 HO611 HO619 HO623 HO627 HO631 HO633 _ nd _ _ _ _ _ _ _ _ _ kj164 HJ164 _ _ HO_46 _ _ _ _ _ _ kj226 HJ226 f_ wc HO_54 HO_59 HO_61 HO_65 HO_66 HB kj240 HJ240 HC274 _ _ J_ K_ hJ_ hK_
 have H := HC274.out
 clear HC274
 by_cases c275 : t613 = true
 ·subst c275
  rw [if_pos rfl] at H
  have H1 := H
  clear H
  have H := H1
  clear H1
  replace H := Option.bind_eq_some_iff.mp H
  obtain ⟨⟨t651, t652⟩, A2760, H⟩ := H
  try dsimp +instances only at H
  replace H := H
  have A276 := Aside0.mk A2760
  clear A2760
  by_cases c277 : t652 = true
  ·subst c277
   rw [if_pos rfl] at H
   have H1 := H
   clear H
   have H := H1
   clear H1
   replace H := Option.bind_eq_some_iff.mp H
   obtain ⟨t655, A2780, H⟩ := H
   try dsimp +instances only at H
   replace H := H
   have A278 := Aside0.mk A2780
   clear A2780
   by_cases c279 : t655 = true
   ·subst c279
    rw [if_pos rfl] at H
    have H1 := H
    clear H
    have H := H1
    clear H1
    have H' := Aside0.mk H
    clear H
    go_wp2_with (first | ((with_reducible refine gate_callee (f := 22) rfl ?_); refine goesL_ (some 551) rfl rfl Try.func22 (by kernel_rfl) rfl #[.int .i64 (t609.length : Int), .int .i64 t612] rfl (by (try simp only [List.map_toArray, List.map_cons, List.map_nil]); rfl) ?_; (with_reducible refine (impl_SwappedAt.calls kj240 (t609.length : Int) t612 t651 true _ A276.out).mono ?_); rintro e w280 ⟨v653, rfl, ho0, hb⟩; refine ⟨_, rfl, ?_⟩; have n0_ := Aside0.mk (Kd.R_elder' (HO_54.out) (Kd.R_base ho0) hb); have n1_ := Aside0.mk (Kd.R_elder' (HO_59.out) (Kd.R_base ho0) hb); have n2_ := Aside0.mk (Kd.R_elder' (HO_61.out) (Kd.R_base ho0) hb); have n3_ := Aside0.mk (Kd.R_elder' (HO_65.out) (Kd.R_base ho0) hb); have n4_ := Aside0.mk (Kd.R_elder' (HO_66.out) (Kd.R_base ho0) hb); have n5_ := Aside0.mk (Kd.R_lower (Kd.R_new' (Kd.R_new' (Kd.R_new' (Kd.R_new' (Kd.R_new' ho0 (Kd.R_lt (HO_54.out))) (Kd.R_lt (HO_59.out))) (Kd.R_lt (HO_61.out))) (Kd.R_lt (HO_65.out))) (Kd.R_lt (HO_66.out))) (below_size (HB.out))); have n6_ := Aside0.mk (below_step (HB.out) hb); clear HO_54; clear HO_59; clear HO_61; clear HO_65; clear HO_66; clear HB; have HO_54 := n0_; have HO_59 := n1_; have HO_61 := n2_; have HO_65 := n3_; have HO_66 := n4_; have HO654 := n5_; have HB := n6_; clear n0_ n1_ n2_ n3_ n4_ n5_ n6_; clear hb; clear ho0; obtain ⟨Ao281, co281, eo281⟩ := Kd.R_slice HO654.out; subst eo281) | (go_at_call 8; (with_reducible refine (laws_xSame.calls kj240 _ _ t651 _ _ t609 true _ ?side1 ?side2 ?side3 ?side4 A278.out).mono ?_); (case side1 => exact (Kd.R_reads' HO654.out).2.2); (case side2 => exact (Kd.R_reads' HO654.out).2.1); (case side3 => exact (Kd.R_reads' HO_54.out).2.2); (case side4 => exact (Kd.R_reads' HO_54.out).2.1); rintro e w' ⟨rfl, ⟨nd, rfl⟩⟩))
    refine Met.intro (hJ_ _ _ ?mg_ ?rel)
    case mg_ => kernel_rfl
    case rel => exact ⟨_, H', ⟨by have := HJ7.out; have := HJ16.out; have := HJ44.out; have := HJ92.out; have := HJ124.out; have := HJ164.out; have := HJ226.out; have := HJ240.out; omega⟩, ⟨by apply Kd.R_drewN; exact Kd.R_mono HO_59.out (fun _ hk => ⟨hk.1.2.1, ⟨hk.1.2.2.1, hk.1.2.2.2⟩⟩)⟩, ⟨by apply Kd.R_drewN; exact Kd.R_mono HO_61.out (fun _ hk => ⟨hk.1.2.1, ⟨hk.1.2.2.1, hk.1.2.2.2⟩⟩)⟩, ⟨by apply Kd.R_drewN; exact Kd.R_mono HO_65.out (fun _ hk => ⟨hk.1.2.1, ⟨hk.1.2.2.1, hk.1.2.2.2⟩⟩)⟩, ⟨by apply Kd.R_drewN; exact Kd.R_mono HO_66.out (fun _ hk => ⟨hk.1.2.1, ⟨hk.1.2.2.1, hk.1.2.2.2⟩⟩)⟩, ⟨by (apply pw_below_drewN; exact HB.out)⟩⟩
   ·replace c279 := Bool.eq_false_iff.mpr c279
    subst c279
    rw [if_neg (show ¬ (false = true) by decide)] at H
    have H1 := H
    clear H
    have H := H1
    clear H1
    obtain rfl := Option.some.inj H
    go_wp2_with (first | ((with_reducible refine gate_callee (f := 22) rfl ?_); refine goesL_ (some 551) rfl rfl Try.func22 (by kernel_rfl) rfl #[.int .i64 (t609.length : Int), .int .i64 t612] rfl (by (try simp only [List.map_toArray, List.map_cons, List.map_nil]); rfl) ?_; (with_reducible refine (impl_SwappedAt.calls kj240 (t609.length : Int) t612 t651 true _ A276.out).mono ?_); rintro e w282 ⟨v653, rfl, ho0, hb⟩; refine ⟨_, rfl, ?_⟩; have n0_ := Aside0.mk (Kd.R_elder' (HO_54.out) (Kd.R_base ho0) hb); have n1_ := Aside0.mk (Kd.R_elder' (HO_59.out) (Kd.R_base ho0) hb); have n2_ := Aside0.mk (Kd.R_elder' (HO_61.out) (Kd.R_base ho0) hb); have n3_ := Aside0.mk (Kd.R_elder' (HO_65.out) (Kd.R_base ho0) hb); have n4_ := Aside0.mk (Kd.R_elder' (HO_66.out) (Kd.R_base ho0) hb); have n5_ := Aside0.mk (Kd.R_lower (Kd.R_new' (Kd.R_new' (Kd.R_new' (Kd.R_new' (Kd.R_new' ho0 (Kd.R_lt (HO_54.out))) (Kd.R_lt (HO_59.out))) (Kd.R_lt (HO_61.out))) (Kd.R_lt (HO_65.out))) (Kd.R_lt (HO_66.out))) (below_size (HB.out))); have n6_ := Aside0.mk (below_step (HB.out) hb); clear HO_54; clear HO_59; clear HO_61; clear HO_65; clear HO_66; clear HB; have HO_54 := n0_; have HO_59 := n1_; have HO_61 := n2_; have HO_65 := n3_; have HO_66 := n4_; have HO654 := n5_; have HB := n6_; clear n0_ n1_ n2_ n3_ n4_ n5_ n6_; clear hb; clear ho0; obtain ⟨Ao283, co283, eo283⟩ := Kd.R_slice HO654.out; subst eo283) | (go_at_call 8; (with_reducible refine (laws_xSame.calls kj240 _ _ t651 _ _ t609 false _ ?side1 ?side2 ?side3 ?side4 A278.out).mono ?_); (case side1 => exact (Kd.R_reads' HO654.out).2.2); (case side2 => exact (Kd.R_reads' HO654.out).2.1); (case side3 => exact (Kd.R_reads' HO_54.out).2.2); (case side4 => exact (Kd.R_reads' HO_54.out).2.1); rintro e w' ⟨rfl, ⟨nd, rfl⟩⟩))
    go_ret
    exact ⟨by rfl, by (apply pw_below_drewN; exact HB.out)⟩
  ·replace c277 := Bool.eq_false_iff.mpr c277
   subst c277
   rw [if_neg (show ¬ (false = true) by decide)] at H
   have H1 := H
   clear H
   have H := H1
   clear H1
   obtain rfl := Option.some.inj H
   go_wp2_with (first | ((with_reducible refine gate_callee (f := 22) rfl ?_); refine goesL_ (some 551) rfl rfl Try.func22 (by kernel_rfl) rfl #[.int .i64 (t609.length : Int), .int .i64 t612] rfl (by (try simp only [List.map_toArray, List.map_cons, List.map_nil]); rfl) ?_; (with_reducible refine (impl_SwappedAt.calls kj240 (t609.length : Int) t612 t651 false _ A276.out).mono ?_); rintro e w284 ⟨v653, rfl, ho0, hb⟩; refine ⟨_, rfl, ?_⟩; have n0_ := Aside0.mk (Kd.R_elder' (HO_54.out) (Kd.R_base ho0) hb); have n1_ := Aside0.mk (Kd.R_elder' (HO_59.out) (Kd.R_base ho0) hb); have n2_ := Aside0.mk (Kd.R_elder' (HO_61.out) (Kd.R_base ho0) hb); have n3_ := Aside0.mk (Kd.R_elder' (HO_65.out) (Kd.R_base ho0) hb); have n4_ := Aside0.mk (Kd.R_elder' (HO_66.out) (Kd.R_base ho0) hb); have n5_ := Aside0.mk (Kd.R_lower (Kd.R_new' (Kd.R_new' (Kd.R_new' (Kd.R_new' (Kd.R_new' ho0 (Kd.R_lt (HO_54.out))) (Kd.R_lt (HO_59.out))) (Kd.R_lt (HO_61.out))) (Kd.R_lt (HO_65.out))) (Kd.R_lt (HO_66.out))) (below_size (HB.out))); have n6_ := Aside0.mk (below_step (HB.out) hb); clear HO_54; clear HO_59; clear HO_61; clear HO_65; clear HO_66; clear HB; have HO_54 := n0_; have HO_59 := n1_; have HO_61 := n2_; have HO_65 := n3_; have HO_66 := n4_; have HO654 := n5_; have HB := n6_; clear n0_ n1_ n2_ n3_ n4_ n5_ n6_; clear hb; clear ho0))
   go_ret
   exact ⟨by rfl, HB.out⟩
 ·replace c275 := Bool.eq_false_iff.mpr c275
  subst c275
  rw [if_neg (show ¬ (false = true) by decide)] at H
  have H1 := H
  clear H
  have H := H1
  clear H1
  have H' := Aside0.mk H
  clear H
  go_wp2
  refine Met.intro (hJ_ _ _ ?mg_ ?rel)
  case mg_ => kernel_rfl
  case rel => exact ⟨_, H', ⟨by have := HJ7.out; have := HJ16.out; have := HJ44.out; have := HJ92.out; have := HJ124.out; have := HJ164.out; have := HJ226.out; have := HJ240.out; omega⟩, ⟨by exact Kd.R_mono HO_59.out (fun _ hk => ⟨hk.2.1, ⟨hk.2.2.1, hk.2.2.2⟩⟩)⟩, ⟨by exact Kd.R_mono HO_61.out (fun _ hk => ⟨hk.2.1, ⟨hk.2.2.1, hk.2.2.2⟩⟩)⟩, ⟨by exact Kd.R_mono HO_65.out (fun _ hk => ⟨hk.2.1, ⟨hk.2.2.1, hk.2.2.2⟩⟩)⟩, ⟨by exact Kd.R_mono HO_66.out (fun _ hk => ⟨hk.2.1, ⟨hk.2.2.1, hk.2.2.2⟩⟩)⟩, ⟨HB.out⟩⟩
def laws_FnOrdersChange.c23 : PSigma fun P0_ : Prop => PSigma fun P1_ : Prop => Hole P0_ → Hole P1_ → laws_FnOrdersChange.c21.2.1 := by
 refine' ⟨_, _, fun HP0_ HP1_ => _⟩
 rotate_left 2
 intro k A0 c0 l0 A1 c1 l1 r w HR0 HC0 HR1 HC1 A3 t530 t531 A5 t532 t533 A6 t536 t537 A7 _ _ _ w9 w10 v534 w11 v538 HO535 HO539 _ _ _ HO_7 _ kj7 HJ7 _ _ kj16 HJ16 t549 t550 t551 A35 t552 t553 A36 t556 t557 A37 t560 t561 A38 t562 t563 A39 t564 t565 A40 t568 t569 A41 t570 t571 A42 t572 t573 A43 t574 t575 A44 w46 w47 v554 w48 v558 _ _ w49 Ao50 co50 _ w51 HO555 HO559 HO567 _ _ _ _ _ HO_18 _ _ kj44 HJ44 _ _ HO_27 _ kj92 HJ92 _ _ kj124 HJ124 t595 t596 A151 t597 t598 A152 t601 t602 A153 t605 t606 A154 t607 t608 A155 t609 A156 t612 t613 A157 t614 t615 A158 t616 t617 A159 t620 t621 A160 t624 t625 A161 t628 t629 A162 t634 t635 A163 t636 t637 A164 w166 w167 v599 w168 v603 w169 w170 w171 Ao172 co172 w173 _ w174 Ao175 co175 w176 v622 w177 v626 w178 _ Ao179 co179 Ao180 co180 HO600 HO604 HO611 HO619 HO623 HO627 HO631 HO633 _ nd _ _ _ _ _ _ _ _ _ kj164 HJ164 _ _ HO_46 _ _ _ _ _ _ kj226 HJ226 _ _ HO_54 HO_59 HO_61 HO_65 HO_66 HB kj240 HJ240 HC274 _ _ f_ wc hcut
 clear HC274
 try clear c2
 try clear p2
 try clear c3
 try clear p6
 try clear c22
 try clear c24
 try clear c25
 try clear c27
 try clear c35
 try clear p64
 try clear c242
 try clear c244
 try clear c246
 try clear c246b0
 try clear c246b1
 try clear c247
 try clear c248
 try clear c250
 try clear c251
 try clear c275
 try clear c277
 try clear c279
 try clear p2
 try clear p6
 try clear p64
 obtain ⟨kq, HA, HJ273, HO_59, HO_61, HO_65, HO_66, HB⟩ := hcut
 cases kq with
 | zero => exact absurd HA.out (by simp [laws_FnOrdersChange.j9])
 | succ kj273 =>
  have H := HA.out
  clear HA
  simp only [laws_FnOrdersChange.j9] at H
  have HC285 := Aside0.mk H
  clear H
  go_upto_if 562 with (fail)
  refine wp_cutF [o_,o_,o_,o_,i_,o_,o_,o_,o_,o_,o_,o_,o_,o_,o_,o_,o_,o_,o_,o_,o_,o_,o_,o_,o_,o_,o_,o_,o_,o_,o_,o_,o_,o_,o_,o_,o_,o_,o_,o_,o_,o_,o_,o_,o_,o_,o_,o_,o_,o_,o_,o_,o_,o_,o_,o_,o_,o_,o_,o_,o_,o_,o_,o_,o_,o_,o_,o_,o_,o_,o_,o_,o_,o_,o_,o_,o_,i_,i_,i_,i_,o_,o_,i_,i_,i_,i_,i_,i_,i_,i_,i_,i_,i_,i_,i_,i_,i_,i_,i_,i_,i_,i_,i_,i_,i_,i_,i_,i_,i_,i_,i_,i_,i_,i_,i_,i_,i_,i_,i_,i_,i_,i_,i_,i_,i_,i_,i_,i_,i_,i_,i_,i_,i_,i_,i_,i_,i_,i_,i_,i_,i_,i_,i_,i_,i_,i_,i_,i_,i_,i_,i_,i_,i_,i_,i_,i_,i_,i_,i_,i_,i_,i_,i_,i_,i_,i_,i_,i_,i_,i_,i_,i_,i_,i_,i_,i_,i_,i_,i_,i_,i_,i_,i_,i_,i_,i_,i_,i_,i_,i_,i_,i_,i_,i_,i_,i_,i_,i_,i_,i_,i_,i_,i_,i_,i_,i_,i_,i_,i_,i_,i_,i_,i_,i_,i_,i_,i_,i_,i_,i_,i_,i_,i_,i_,i_,i_,i_,i_,i_,i_,i_,i_,i_,i_,i_,i_,i_,i_,i_,i_,i_,i_,i_,i_,i_,i_,i_,i_,i_,i_,i_,i_,i_,i_,i_,i_,i_,i_,i_,i_,i_,i_,i_,i_,i_,i_,i_,i_,i_,i_,i_,i_,i_,i_,i_,i_,i_,i_,i_,i_,i_,i_,i_,i_,i_,i_,i_,i_,i_,i_,i_,i_,i_,i_,i_,i_,i_,i_,i_,i_,i_,i_,i_,i_,i_,i_,i_,i_,i_,i_,i_,i_,i_,i_,i_,i_,i_,i_,i_,i_,i_,i_,i_,i_,i_,i_,i_,i_,i_,i_,i_,i_,i_,i_,i_,i_,i_,i_,i_,i_,i_,i_,i_,i_,i_,i_,i_,i_,i_,i_,i_,i_,i_,i_,i_,i_,i_,i_,i_,i_,i_,i_,i_,i_,i_,i_,i_,i_,i_,i_,i_,i_,i_,i_,i_,i_,i_,i_,i_,i_,i_,i_,i_,i_,i_,i_,i_,i_,i_,i_,i_,i_,i_,i_,i_,i_,i_,i_,i_,i_,i_,i_,i_,i_,i_,i_,i_,i_,i_,i_,i_,i_,i_,i_,i_,i_,i_,i_,i_,i_,i_,i_,i_,i_,i_,i_,i_,i_,i_,i_,i_,i_,i_,i_,i_,i_,i_,i_,i_,i_,i_,i_,i_,i_,i_,i_,i_,i_,i_,i_,i_,i_,i_,i_,i_,i_,i_,i_,i_,i_,i_,i_,i_,i_,i_,i_,i_,i_,i_,i_,i_,i_,i_,i_,i_,i_,i_,i_,i_,i_,i_,i_,i_,i_,i_,i_,i_,i_,i_,i_,i_,i_,i_,i_,i_,i_,i_,i_,i_,i_,i_,i_,i_,i_,i_,i_,i_,i_,i_,i_,i_,i_,i_,i_,i_,i_,i_,i_,i_,i_,i_,i_,i_,i_,i_,i_,i_,i_,i_,i_,i_,i_,i_,i_,i_,i_,i_,i_,i_,i_,i_,i_,i_,i_,i_,i_,i_,i_,i_,i_,i_,i_,i_,i_,i_,i_,i_,i_,i_,i_,i_,i_,i_,i_,i_,i_,i_,i_,i_,i_,i_,i_,i_,i_,i_,i_,i_,i_,i_,i_,i_,i_,i_,i_,i_,i_,i_,i_,i_,i_,i_,i_,i_,i_,i_,i_,i_,i_,i_,i_,i_,i_,i_,i_] (fun f_ wc => ∃ (kq : Nat), Aside0 (laws_FnOrdersChange.j10 kq t628 t629 t634 t635 = some r) ∧ Aside0 (kq ≤ kj273) ∧ Aside0 (Kd.R (Kd.int .i64) 3 wc w.heap.size (fun k_ => some k_ ≠ ((.slice Ao180 t629.length co180) : Value).ownBlock) (.slice Ao179 t628.length co179) t628) ∧ Aside0 (Kd.R (Kd.int .i64) 3 wc w.heap.size (fun k_ => some k_ ≠ ((.slice Ao179 t628.length co179) : Value).ownBlock) (.slice Ao180 t629.length co180) t629) ∧ Aside0 (Below w.heap.size w wc)) ?rest ?first
  case first =>
   intro J_ K_ hJ_ hK_
   repeat revert ‹_›
   intro HP0_ HP1_
   exact HP0_.out
  case rest =>
   intro f_ wc hcut
   dsimp only [maskF] at hcut ⊢
   repeat revert ‹_›
   intro HP0_ HP1_
   exact HP1_.out
end Go.Proofs.Ytcgilnmljflebaa.A
