-- written by a program of this session's over the kit's print (xp.py)
import Derived.Test.YtddkffdjondjnaaGreatDoorAx0
import Derived.Test.YtddkffdjondjnaaGreatDoorAx1
import Derived.Test.YtddkffdjondjnaaGreatDoorAx2
import Derived.Test.YtddkffdjondjnaaGreatDoorAx3
import Derived.Test.YtddkffdjondjnaaGreatDoorAx4
import Derived.Test.YtddkffdjondjnaaGreatDoorAx5
import Derived.Test.YtddkffdjondjnaaGreatDoorAx6
import Derived.Test.YtddkffdjondjnaaGreatDoorAx7
import Derived.Test.YtddkffdjondjnaaGreatDoorAx8
import Derived.Test.YtddkffdjondjnaaGreatDoorAx9
import Derived.Test.YtddkffdjondjnaaGreatDoorAx10
import Derived.Test.YtddkffdjondjnaaGreatDoorAx10c1
-- halved
namespace Go.Proofs.YtddkffdjondjnaaGreatDoor.A
-- slim
set_option maxHeartbeats 8000000
set_option maxRecDepth 100000
open Go.RowKit Go.Proofs.YtddkffdjondjnaaGreatDoorW.PrintWords Go.Proofs.YtddkffdjondjnaaGreatDoorW.PrintLast Go.Proofs.YtddkffdjondjnaaGreatDoorW.PrintMore
attribute [local go_sem] max2_int min2_int max_two min_two max_three min_three max_four min_four   -- for this text's walks alone
set_option linter.unusedVariables false
set_option linter.unusedSimpArgs false

def laws_FnWaysLead.c8 : PSigma fun P0_ : Prop => PSigma fun P1_ : Prop => Hole P0_ → Hole P1_ → laws_FnWaysLead.c5.2.1 := by
 refine' ⟨_, _, fun HP0_ HP1_ => _⟩
 rotate_left 2
 intro k A0 c0 l0 A1 c1 l1 r w HR0 HC0 HR1 HC1 A3 t387 t388 A5 t389 t390 A6 t393 t394 A7 t397 t398 A8 t399 t400 A9 t401 t402 A10 t403 t404 A11 t405 t406 A12 t409 t410 A13 t413 t414 A14 t415 t416 A15 t417 t418 A16 t421 t422 A17 _ _ _ w19 w20 v391 w21 v395 w22 _ w23 w24 w25 v407 w26 v411 w27 nd w28 v419 w29 v423 HO392 HO396 HO408 HO412 HO420 HO424 _ _ _ HO_7 HO_19 HO_27 HB kj17 HJ17 HC149 _ _ f_ wc hcut
 clear HC149
 try clear c1
 try clear p2
 try clear c3
 try clear c4
 try clear c5
 try clear c6
 try clear p6
 try clear c7
 try clear c8
 try clear c9
 try clear c10
 try clear c11
 try clear c12
 try clear c13
 try clear c14
 try clear c15
 try clear c16
 try clear c17
 try clear c30
 try clear c30b0
 try clear c30b1
 try clear c30b2
 try clear c32
 try clear c33
 try clear c33b0
 try clear c33b1
 try clear c33b2
 try clear c36
 try clear c36b0
 try clear c36b1
 try clear c37
 try clear c37b0
 try clear c37b1
 try clear c37b2
 try clear c40
 try clear c40b0
 try clear c40b1
 try clear c41
 try clear c41b0
 try clear c41b1
 try clear c41b2
 try clear c45
 try clear c46
 try clear c46b0
 try clear c46b1
 try clear c46b2
 try clear c51
 try clear c51b0
 try clear c51b1
 try clear c52
 try clear c52b0
 try clear c52b1
 try clear c52b2
 try clear c58
 try clear c59
 try clear c60
 try clear c60b0
 try clear c60b1
 try clear c60b2
 try clear p64
 try clear c67
 try clear c67b0
 try clear c67b1
 try clear c67b2
 try clear c74
 try clear c74b0
 try clear c74b1
 try clear c74b2
 try clear c81
 try clear c81b0
 try clear c81b1
 try clear c81b2
 try clear c94
 try clear c94b0
 try clear c94b1
 try clear c94b2
 try clear c101
 try clear c101b0
 try clear c101b1
 try clear c101b2
 try clear c108
 try clear c108b0
 try clear c108b1
 try clear c108b2
 try clear c115
 try clear c115b0
 try clear c115b1
 try clear c115b2
 try clear c148
 try clear c150
 try clear c155
 try clear c156
 try clear c156b0
 try clear c156b1
 try clear c157
 try clear c157b0
 try clear c157b1
 try clear c157b2
 try clear c162
 try clear c164
 try clear c166
 try clear c166b0
 try clear c166b1
 try clear c167
 try clear c168
 try clear c168b0
 try clear c168b1
 try clear c169
 try clear c170
 try clear c170b0
 try clear c170b1
 try clear p2
 obtain ⟨kq, HA, HJ148, HO_7, HO_19, HO_27, HB⟩ := hcut
 cases kq with
 | zero => exact absurd HA.out (by simp [laws_FnWaysLead.j1])
 | succ kj148 =>
  have H := HA.out
  clear HA
  simp only [laws_FnWaysLead.j1] at H
  have HC225 := Aside0.mk H
  clear H
  go_upto_if 336 with (fail)
  refine wp_cutF [o_,o_,o_,o_,i_,o_,o_,o_,o_,o_,o_,o_,o_,o_,o_,o_,o_,o_,o_,o_,o_,o_,o_,o_,o_,o_,o_,o_,o_,o_,o_,o_,o_,o_,o_,o_,o_,o_,o_,i_,i_,i_,i_,i_,o_,i_,o_,o_,o_,o_,o_,o_,o_,o_,o_,o_,o_,o_,o_,o_,o_,o_,o_,o_,o_,o_,o_,o_,o_,o_,o_,o_,o_,o_,o_,o_,o_,o_,o_,o_,i_,i_,i_,i_,i_,i_,i_,i_,i_,i_,i_,i_,i_,i_,i_,i_,i_,i_,i_,i_,i_,i_,i_,i_,i_,i_,i_,i_,i_,i_,i_,i_,i_,i_,i_,i_,i_,i_,i_,i_,i_,i_,i_,i_,i_,i_,i_,i_,i_,i_,i_,i_,i_,i_,i_,i_,i_,i_,i_,i_,i_,i_,i_,i_,i_,i_,i_,i_,i_,i_,i_,i_,i_,i_,i_,i_,i_,i_,i_,i_,i_,i_,i_,i_,i_,i_,i_,i_,i_,i_,i_,i_,i_,i_,i_,i_,i_,i_,i_,i_,i_,i_,i_,i_,i_,i_,i_,i_,i_,i_,i_,i_,i_,i_,i_,i_,i_,i_,i_,i_,i_,i_,i_,i_,i_,i_,i_,i_,i_,i_,i_,i_,i_,i_,i_,i_,i_,i_,i_,i_,i_,i_,i_,i_,i_,i_,i_,i_,i_,i_,i_,i_,i_,i_,i_,i_,i_,i_,i_,i_,i_,i_,i_,i_,i_,i_,i_,i_,i_,i_,i_,i_,i_,i_,i_,i_,i_,i_,i_,i_,i_,i_,i_,i_,i_,i_,i_,i_,i_,i_,i_,i_,i_,i_,i_,i_,i_,i_,i_,i_,i_,i_,i_,i_,i_,i_,i_,i_,i_,i_,i_,i_,i_,i_,i_,i_,i_,i_,i_,i_,i_,i_,i_,i_,i_,i_,i_,i_,i_,i_,i_,i_,i_,i_,i_,i_,i_,i_,i_,i_,i_,i_,i_,i_,i_,i_,i_,i_,i_,i_,i_,i_,i_,i_,i_,i_,i_,i_,i_,i_,i_,i_,i_,i_,i_,i_,i_,i_,i_,i_,i_,i_,i_,i_,i_,i_,i_,i_,i_,i_,i_,i_,i_,i_,i_,i_,i_,i_,i_,i_,i_,i_,i_,i_,i_,i_,i_,i_,i_,i_,i_,i_,i_,i_,i_,i_,i_,i_,i_,i_,i_,i_,i_,i_,i_,i_,i_,i_,i_,i_,i_,i_,i_,i_,i_,i_,i_,i_,i_,i_,i_,i_,i_,i_,i_,i_,i_,i_,i_,i_,i_,i_,i_,i_,i_,i_,i_,i_,i_,i_,i_,i_,i_,i_,i_,i_,i_,i_,i_,i_,i_,i_,i_,i_,i_,i_,i_,i_,i_,i_,i_,i_,i_,i_,i_,i_,i_,i_,i_,i_,i_,i_,i_,i_,i_,i_,i_,i_,i_,i_,i_,i_,i_,i_,i_,i_,i_,i_,i_,i_,i_,i_,i_,i_,i_,i_,i_,i_,i_,i_,i_,i_,i_,i_,i_,i_,i_,i_,i_,i_,i_,i_,i_,i_,i_,i_,i_,i_,i_,i_,i_,i_,i_,i_,i_,i_,i_,i_,i_,i_,i_,i_,i_,i_,i_,i_,i_,i_,i_,i_,i_,i_,i_,i_,i_,i_,i_,i_,i_,i_,i_,i_,i_,i_,i_,i_,i_,i_,i_,i_,i_,i_,i_,i_,i_,i_,i_,i_,i_,i_,i_,i_,i_,i_,i_,i_,i_,i_,i_,i_,i_,i_,i_,i_,i_,i_,i_,i_,i_,i_,i_,i_,i_,i_,i_,i_,i_,i_,i_,i_,i_,i_,i_,i_,i_,i_,i_,i_,i_,i_,i_,i_,i_,i_,i_,i_,i_,i_,i_,i_,i_,i_,i_,i_,i_,i_,i_] (fun f_ wc => ∃ (kq : Nat), Aside0 (laws_FnWaysLead.j5 kq l1 t387 t388 t397 t405 t406 = some r) ∧ Aside0 (kq ≤ kj148) ∧ Aside0 (Kd.R Kd.string 9 wc w.heap.size (fun _ => True) v407 t405) ∧ Aside0 (Below w.heap.size w wc)) ?rest ?first
  case first =>
   intro J_ K_ hJ_ hK_
   repeat revert ‹_›
   intro HP0_ HP1_
   exact HP0_.out
  case rest =>
   intro f_ wc hcut
   dsimp only [maskF] at hcut ⊢
   repeat revert ‹_›
   intro HP0_ HP1_
   exact HP1_.out

def laws_FnWaysLead.c9 : PSigma fun P0_ : Prop => Hole P0_ → laws_FnWaysLead.c8.1 := by
 refine' ⟨_, fun HP0_ => _⟩
 rotate_left 1
 intro k A0 c0 l0 A1 c1 l1 r w HR0 HC0 HR1 HC1 A3 t387 t388 A5 t389 t390 A6 t393 t394 A7 t397 t398 A8 t399 t400 A9 t401 t402 A10 t403 t404 A11 t405 t406 A12 t409 t410 A13 t413 t414 A14 t415 t416 A15 t417 t418 A16 t421 t422 A17 _ _ _ w19 w20 v391 w21 v395 w22 _ w23 w24 w25 v407 w26 v411 w27 nd w28 v419 w29 v423 HO392 HO396 HO408 HO412 HO420 HO424 _ _ _ _ _ _ _ kj17 HJ17 f_ wc HO_7 HO_19 HO_27 HB kj148 HJ148 HC225 _ _ J_ K_ hJ_ hK_
 have H := HC225.out
 clear HC225
 by_cases c226 : t390 = true
 ·subst c226
  rw [if_pos rfl] at H
  have H1 := H
  clear H
  have H := H1
  clear H1
  replace H := Option.bind_eq_some_iff.mp H
  obtain ⟨⟨t440, t441⟩, A2270, H⟩ := H
  try dsimp +instances only at H
  replace H := H
  have A227 := Aside0.mk A2270
  clear A2270
  have HC228 := Aside0.mk H
  clear H
  obtain ⟨Ao229, co229, eo229⟩ := Kd.R_slice HO_7.out
  subst eo229
  go_upto_region 27 with (first | ((with_reducible refine gate_callee (f := 21) rfl ?_); refine goesL_ (some 340) rfl rfl Tryz.func21 (by kernel_rfl) rfl #[.string t387, .slice Ao229 t389.length co229] rfl (by (try simp only [List.map_toArray, List.map_cons, List.map_nil]); first | done | rfl | (simp only [List.length_drop, List.length_take]; rfl)) ?_; (with_reducible refine (impl_PlayMoves.calls kj148 t387 _ _ t389 t440 t441 _ ?side1 ?side2 A227.out).mono ?_); (case side1 => repeat (first | exact (Kd.R_reads' HO_7.out).2.2 | (with_reducible refine Kd.C_alloc ?_ _) | (with_reducible refine Kd.C_drewN ?_ _) | (with_reducible refine Kd.C_drew ?_))); (case side2 => exact (Kd.R_reads' HO_7.out).2.1); rintro e w230 ⟨rfl, hb⟩; refine ⟨_, rfl, ?_⟩; have n0_ := Aside0.mk (Kd.R_below (by (with_reducible repeat (first | apply Kd.R_alloc | apply Kd.R_drewN | apply Kd.R_drew)); exact HO_7.out) hb); have n1_ := Aside0.mk (Kd.R_below (by (with_reducible repeat (first | apply Kd.R_alloc | apply Kd.R_drewN | apply Kd.R_drew)); exact HO_19.out) hb); have n2_ := Aside0.mk (Kd.R_below (by (with_reducible repeat (first | apply Kd.R_alloc | apply Kd.R_drewN | apply Kd.R_drew)); exact HO_27.out) hb); have n3_ := Aside0.mk (below_step (by repeat (first | (with_reducible first | exact HB.out | apply below_alloc | apply pw_below_drewN | apply below_drew1) | exact HB.out)) hb); clear HO_7; clear HO_19; clear HO_27; clear HB; have HO_7 := n0_; have HO_19 := n1_; have HO_27 := n2_; have HB := n3_; clear n0_ n1_ n2_ n3_; (try clear hb); (try clear hb2); (try clear hk); (try clear hi)))
  (try simp only [Act.put, List.setIfInBounds_toArray, List.set_cons_zero, List.set_cons_succ])
  refine wp_cutF [o_,o_,o_,o_,o_,o_,o_,o_,o_,o_,o_,o_,o_,o_,o_,o_,o_,o_,o_,o_,o_,o_,o_,o_,o_,o_,o_,o_,o_,o_,o_,o_,o_,o_,o_,o_,o_,o_,o_,o_,o_,o_,o_,o_,o_,o_,o_,o_,o_,o_,o_,o_,o_,o_,o_,o_,o_,o_,o_,o_,o_,o_,o_,o_,o_,o_,o_,o_,o_,o_,o_,o_,o_,o_,o_,o_,o_,o_,o_,o_,i_,i_,i_,i_,i_,i_,i_,i_,i_,i_,i_,i_,i_,i_,i_,i_,i_,i_,i_,i_,i_,i_,i_,i_,i_,i_,i_,i_,i_,i_,i_,i_,i_,i_,i_,i_,i_,i_,i_,i_,i_,i_,i_,i_,i_,i_,i_,i_,i_,i_,i_,i_,i_,i_,i_,i_,i_,i_,i_,i_,i_,i_,i_,i_,i_,i_,i_,i_,i_,i_,i_,i_,i_,i_,i_,i_,i_,i_,i_,i_,i_,i_,i_,i_,i_,i_,i_,i_,i_,i_,i_,i_,i_,i_,i_,i_,i_,i_,i_,i_,i_,i_,i_,i_,i_,i_,i_,i_,i_,i_,i_,i_,i_,i_,i_,i_,i_,i_,i_,i_,i_,i_,i_,i_,i_,i_,i_,i_,i_,i_,i_,i_,i_,i_,i_,i_,i_,i_,i_,i_,i_,i_,i_,i_,i_,i_,i_,i_,i_,i_,i_,i_,i_,i_,i_,i_,i_,i_,i_,i_,i_,i_,i_,i_,i_,i_,i_,i_,i_,i_,i_,i_,i_,i_,i_,i_,i_,i_,i_,i_,i_,i_,i_,i_,i_,i_,i_,i_,i_,i_,i_,i_,i_,i_,i_,i_,i_,i_,i_,i_,i_,i_,i_,i_,i_,i_,i_,i_,i_,i_,i_,i_,i_,i_,i_,i_,i_,i_,i_,i_,i_,i_,i_,i_,i_,i_,i_,i_,i_,i_,i_,i_,i_,i_,i_,i_,i_,i_,i_,i_,i_,i_,i_,i_,i_,i_,i_,i_,i_,i_,i_,i_,i_,i_,i_,i_,i_,i_,i_,i_,i_,i_,i_,i_,i_,i_,i_,i_,i_,i_,i_,i_,i_,i_,i_,i_,i_,i_,i_,i_,i_,i_,i_,i_,i_,i_,o_,o_,o_,i_,i_,i_,i_,o_,o_,o_,i_,i_,i_,i_,i_,i_,i_,i_,i_,i_,i_,i_,i_,i_,i_,i_,i_,i_,i_,i_,i_,i_,i_,i_,i_,i_,i_,i_,i_,i_,i_,i_,i_,i_,i_,i_,i_,i_,i_,i_,i_,i_,i_,i_,i_,i_,i_,i_,i_,i_,i_,i_,i_,i_,i_,i_,i_,i_,i_,i_,i_,i_,i_,i_,i_,i_,i_,i_,i_,i_,i_,i_,i_,i_,i_,i_,i_,i_,i_,i_,i_,i_,i_,i_,i_,i_,i_,i_,i_,i_,i_,i_,i_,i_,i_,i_,i_,i_,i_,i_,i_,i_,i_,i_,i_,i_,i_,i_,i_,i_,i_,i_,i_,i_,i_,i_,i_,i_,i_,i_,i_,i_,i_,i_,i_,i_,i_,i_,i_,i_,i_,i_,i_,i_,i_,i_,i_,i_,i_,i_,i_,i_,i_,i_,i_,i_,i_,i_,i_,i_,i_,i_,i_,i_,i_,i_,i_,i_,i_,i_,i_,i_,i_,i_,i_,i_,i_,i_,i_,i_,i_,i_,i_,i_,i_,i_,i_,i_,i_,i_,i_,i_,i_,i_,i_,i_,i_,i_,i_,i_,i_,i_,i_,i_,i_,i_,i_,i_,i_,i_,i_,i_,i_,i_,i_,i_,i_,i_,i_,i_,i_,i_,i_,i_,i_,i_,i_,i_,i_,i_,i_,i_,i_,i_,i_,i_,i_,i_,i_,i_,i_,i_,i_,i_,i_,i_,i_,i_,i_,i_,i_] (fun f_ wc => ∃ (kq : Nat) (x365_227 : Bool), (f_ 365) = .bool x365_227 ∧ Aside0 (laws_FnWaysLead.j2 kq l1 t387 t388 t389 t397 t405 t406 t417 x365_227 = some r) ∧ Aside0 (kq ≤ kj148) ∧ Aside0 (Kd.R (Kd.int .i64) 3 wc w.heap.size (fun k_ => some k_ ≠ (v419 : Value).ownBlock) (.slice Ao229 t389.length co229) t389) ∧ Aside0 (Kd.R Kd.string 9 wc w.heap.size (fun _ => True) v407 t405) ∧ Aside0 (Kd.R (Kd.int .i64) 3 wc w.heap.size (fun k_ => some k_ ≠ ((.slice Ao229 t389.length co229) : Value).ownBlock) v419 t417) ∧ Aside0 (Below w.heap.size w wc)) ?rest ?first
  case first =>
   intro J_ K_ hJ_ hK_
   have H := HC228.out
   clear HC228
   by_cases c231 : t441 = true
   ·subst c231
    rw [if_pos rfl] at H
    have H1 := H
    clear H
    have H := H1
    clear H1
    by_cases c232 : t440.toList = t388.toList
    ·rw [if_pos c232] at H
     have c232b0 : (t440.toList == t388.toList) = true := beq_iff_eq.mpr c232
     have c232b1 : (t440.toList != t388.toList) = false := bne_eq_false_iff_eq.mpr c232
     (try (have c232n1 : (!(t440.toList == t388.toList)) = false := c232b1))
     clear c232
     (first | rw [c232b0] | (simp only [i64_w, i32_w]; rw [c232b0]) | skip)
     by_cases c233 : (t389.length : Int) = t397
     ·rw [if_pos c233] at H
      have c233b0 : ((t389.length : Int) == t397) = true := beq_iff_eq.mpr c233
      have c233b1 : ((t389.length : Int) != t397) = false := bne_eq_false_iff_eq.mpr c233
      clear c233
      by_cases c234 : t402 = true
      ·subst c234
       rw [if_pos rfl] at H
       have H1 := H
       clear H
       have H := H1
       clear H1
       by_cases c235 : 0 < (t389.length : Int)
       ·rw [if_pos c235] at H
        have c235b0 : decide (0 < (t389.length : Int)) = true := decide_eq_true c235
        have c235b1 : decide (0 < t389.length) = true := decide_eq_true (by omega)
        clear c235
        have H' := Aside0.mk H
        clear H
        have p442 : 0 ≤ (0 : Int) := (by omega)
        have q442 : 0 < (t389.length : Int) := of_decide_eq_true (by first | (with_reducible assumption) | assumption)
        obtain ⟨ad442, e442, hx442_0⟩ := Kd.at_int (Kd.R_reads' HO_7.out).2.2 0 p442 q442
        cases e442
        have qi442 : (0 < t389.length) = True := eq_true (by omega)
        (try rw [show ((0 : Int)).toNat = 0 from rfl] at hx442_0)
        (try rw [Addr.add_zero'] at hx442_0)
        replace p442 := eq_true p442
        replace q442 := eq_true q442
        go_wp2
        refine Met.intro (hJ_ _ _ ?mg_ ?rel)
        case mg_ => kernel_rfl
        case rel => exact ⟨_, (((rd t389 0) != t401)), (by first | rfl | ((conv => lhs; whnf); first | rfl | (simp; done) | (simp [*]; done))), H', ⟨by have := HJ17.out; have := HJ148.out; first | omega | exact Nat.le_refl _⟩, ⟨by (with_reducible repeat (first | apply Kd.R_alloc | apply Kd.R_drewN | apply Kd.R_drew)); exact HO_7.out⟩, ⟨by (with_reducible repeat (first | apply Kd.R_alloc | apply Kd.R_drewN | apply Kd.R_drew)); exact HO_19.out⟩, ⟨by (with_reducible repeat (first | apply Kd.R_alloc | apply Kd.R_drewN | apply Kd.R_drew)); exact HO_27.out⟩, ⟨by repeat (first | (with_reducible first | exact HB.out | apply below_alloc | apply pw_below_drewN | apply below_drew1) | exact HB.out)⟩⟩
       ·rw [if_neg c235] at H
        exact absurd H (by simp)
      ·replace c234 := Bool.eq_false_iff.mpr c234
       subst c234
       rw [if_neg (show ¬ (false = true) by decide)] at H
       have H1 := H
       clear H
       have H := H1
       clear H1
       have H' := Aside0.mk H
       clear H
       go_wp2
       refine Met.intro (hJ_ _ _ ?mg_ ?rel)
       case mg_ => kernel_rfl
       case rel => exact ⟨_, (false), (by first | rfl | ((conv => lhs; whnf); first | rfl | (simp; done) | (simp [*]; done))), H', ⟨by have := HJ17.out; have := HJ148.out; first | omega | exact Nat.le_refl _⟩, ⟨by (with_reducible repeat (first | apply Kd.R_alloc | apply Kd.R_drewN | apply Kd.R_drew)); exact HO_7.out⟩, ⟨by (with_reducible repeat (first | apply Kd.R_alloc | apply Kd.R_drewN | apply Kd.R_drew)); exact HO_19.out⟩, ⟨by (with_reducible repeat (first | apply Kd.R_alloc | apply Kd.R_drewN | apply Kd.R_drew)); exact HO_27.out⟩, ⟨by repeat (first | (with_reducible first | exact HB.out | apply below_alloc | apply pw_below_drewN | apply below_drew1) | exact HB.out)⟩⟩
     ·rw [if_neg c233] at H
      have c233b0 : ((t389.length : Int) == t397) = false := beq_eq_false_iff_ne.mpr c233
      have c233b1 : ((t389.length : Int) != t397) = true := bne_iff_ne.mpr c233
      have H' := Aside0.mk H
      clear H
      go_wp2
      refine Met.intro (hJ_ _ _ ?mg_ ?rel)
      case mg_ => kernel_rfl
      case rel => exact ⟨_, (true), (by first | rfl | ((conv => lhs; whnf); first | rfl | (simp; done) | (simp [*]; done))), H', ⟨by have := HJ17.out; have := HJ148.out; first | omega | exact Nat.le_refl _⟩, ⟨by (with_reducible repeat (first | apply Kd.R_alloc | apply Kd.R_drewN | apply Kd.R_drew)); exact HO_7.out⟩, ⟨by (with_reducible repeat (first | apply Kd.R_alloc | apply Kd.R_drewN | apply Kd.R_drew)); exact HO_19.out⟩, ⟨by (with_reducible repeat (first | apply Kd.R_alloc | apply Kd.R_drewN | apply Kd.R_drew)); exact HO_27.out⟩, ⟨by repeat (first | (with_reducible first | exact HB.out | apply below_alloc | apply pw_below_drewN | apply below_drew1) | exact HB.out)⟩⟩
    ·rw [if_neg c232] at H
     have c232b0 : (t440.toList == t388.toList) = false := beq_eq_false_iff_ne.mpr c232
     have c232b1 : (t440.toList != t388.toList) = true := bne_iff_ne.mpr c232
     (try (have c232n1 : (!(t440.toList == t388.toList)) = true := c232b1))
     (first | rw [c232b0] | (simp only [i64_w, i32_w]; rw [c232b0]) | skip)
     have H' := Aside0.mk H
     clear H
     go_wp2
     refine Met.intro (hJ_ _ _ ?mg_ ?rel)
     case mg_ => kernel_rfl
     case rel => exact ⟨_, (true), (by first | rfl | ((conv => lhs; whnf); first | rfl | (simp; done) | (simp [*]; done))), H', ⟨by have := HJ17.out; have := HJ148.out; first | omega | exact Nat.le_refl _⟩, ⟨by (with_reducible repeat (first | apply Kd.R_alloc | apply Kd.R_drewN | apply Kd.R_drew)); exact HO_7.out⟩, ⟨by (with_reducible repeat (first | apply Kd.R_alloc | apply Kd.R_drewN | apply Kd.R_drew)); exact HO_19.out⟩, ⟨by (with_reducible repeat (first | apply Kd.R_alloc | apply Kd.R_drewN | apply Kd.R_drew)); exact HO_27.out⟩, ⟨by repeat (first | (with_reducible first | exact HB.out | apply below_alloc | apply pw_below_drewN | apply below_drew1) | exact HB.out)⟩⟩
   ·replace c231 := Bool.eq_false_iff.mpr c231
    subst c231
    rw [if_neg (show ¬ (false = true) by decide)] at H
    have H1 := H
    clear H
    have H := H1
    clear H1
    have H' := Aside0.mk H
    clear H
    go_wp2
    refine Met.intro (hJ_ _ _ ?mg_ ?rel)
    case mg_ => kernel_rfl
    case rel => exact ⟨_, (true), (by first | rfl | ((conv => lhs; whnf); first | rfl | (simp; done) | (simp [*]; done))), H', ⟨by have := HJ17.out; have := HJ148.out; first | omega | exact Nat.le_refl _⟩, ⟨by (with_reducible repeat (first | apply Kd.R_alloc | apply Kd.R_drewN | apply Kd.R_drew)); exact HO_7.out⟩, ⟨by (with_reducible repeat (first | apply Kd.R_alloc | apply Kd.R_drewN | apply Kd.R_drew)); exact HO_19.out⟩, ⟨by (with_reducible repeat (first | apply Kd.R_alloc | apply Kd.R_drewN | apply Kd.R_drew)); exact HO_27.out⟩, ⟨by repeat (first | (with_reducible first | exact HB.out | apply below_alloc | apply pw_below_drewN | apply below_drew1) | exact HB.out)⟩⟩
  case rest =>
   intro f_ wc hcut
   dsimp only [maskF] at hcut ⊢
   generalize f_ 365 = u365 at hcut ⊢
   repeat revert ‹_›
   intro HP0_
   exact HP0_.out
 ·replace c226 := Bool.eq_false_iff.mpr c226
  subst c226
  rw [if_neg (show ¬ (false = true) by decide)] at H
  have H1 := H
  clear H
  have H := H1
  clear H1
  have H' := Aside0.mk H
  clear H
  go_wp2
  refine Met.intro (hJ_ _ _ ?mg_ ?rel)
  case mg_ => kernel_rfl
  case rel => exact ⟨_, H', ⟨by have := HJ17.out; have := HJ148.out; first | omega | exact Nat.le_refl _⟩, ⟨by (with_reducible repeat (first | apply Kd.R_alloc | apply Kd.R_drewN | apply Kd.R_drew)); exact HO_19.out⟩, ⟨by repeat (first | (with_reducible first | exact HB.out | apply below_alloc | apply pw_below_drewN | apply below_drew1) | exact HB.out)⟩⟩

def laws_FnWaysLead.c10 : PSigma fun P0_ : Prop => Hole P0_ → laws_FnWaysLead.c9.1 := by
 refine' ⟨_, fun HP0_ => _⟩
 rotate_left 1
 intro k A0 c0 l0 A1 c1 l1 r w HR0 HC0 HR1 HC1 A3 t387 t388 A5 t389 t393 t394 A7 t397 t398 A8 t399 t400 A9 t401 t402 A10 t403 t404 A11 t405 t406 A12 t409 t410 A13 t413 t414 A14 t415 t416 A15 t417 t418 A16 t421 t422 A17 _ _ _ w19 w20 w21 v395 w22 _ w23 w24 w25 v407 w26 v411 w27 nd w28 v419 w29 v423 HO408 HO412 _ _ _ _ _ kj17 HJ17 _ _ kj148 HJ148 _ _ J_ K_ hK_ A6 t440 t441 A227 HC228 Ao229 co229 HO392 HO396 HO420 HO424 _ _ hJ_ w230 HO_7 HO_19 HO_27 HB _ _ _ _ f_ wc u365 hcut
 clear HC228
 try clear c1
 try clear c2
 try clear p2
 try clear c3
 try clear c4
 try clear p4
 try clear q4
 try clear hx4
 try clear qi4
 try clear c5
 try clear c6
 try clear p6
 try clear c7
 try clear c8
 try clear c9
 try clear c10
 try clear c11
 try clear c12
 try clear c13
 try clear c14
 try clear c15
 try clear c16
 try clear c17
 try clear c21
 try clear c22
 try clear c23
 try clear c30
 try clear c30b0
 try clear c30b1
 try clear c30b2
 try clear c32
 try clear c33
 try clear c33b0
 try clear c33b1
 try clear c33b2
 try clear c36
 try clear c36b0
 try clear c36b1
 try clear c37
 try clear c37b0
 try clear c37b1
 try clear c37b2
 try clear c40
 try clear c40b0
 try clear c40b1
 try clear c41
 try clear c41b0
 try clear c41b1
 try clear c41b2
 try clear p44
 try clear q44
 try clear hx44
 try clear qi44
 try clear c45
 try clear c46
 try clear c46b0
 try clear c46b1
 try clear c46b2
 try clear c51
 try clear c51b0
 try clear c51b1
 try clear c52
 try clear c52b0
 try clear c52b1
 try clear c52b2
 try clear c58
 try clear c59
 try clear c60
 try clear c60b0
 try clear c60b1
 try clear c60b2
 try clear p64
 try clear c67
 try clear c67b0
 try clear c67b1
 try clear c67b2
 try clear c74
 try clear c74b0
 try clear c74b1
 try clear c74b2
 try clear c81
 try clear c81b0
 try clear c81b1
 try clear c81b2
 try clear c94
 try clear c94b0
 try clear c94b1
 try clear c94b2
 try clear c101
 try clear c101b0
 try clear c101b1
 try clear c101b2
 try clear c108
 try clear c108b0
 try clear c108b1
 try clear c108b2
 try clear c115
 try clear c115b0
 try clear c115b1
 try clear c115b2
 try clear c148
 try clear c150
 try clear c155
 try clear c156
 try clear c156b0
 try clear c156b1
 try clear c157
 try clear c157b0
 try clear c157b1
 try clear c157b2
 try clear c162
 try clear c164
 try clear c166
 try clear c166b0
 try clear c166b1
 try clear c167
 try clear c168
 try clear c168b0
 try clear c168b1
 try clear c169
 try clear c170
 try clear c170b0
 try clear c170b1
 try clear c226
 try clear c231
 try clear c232
 try clear c232b0
 try clear c232b1
 try clear c233
 try clear c233b0
 try clear c233b1
 try clear c234
 try clear c235
 try clear c235b0
 try clear c235b1
 try clear hx442_0
 try clear p2
 try clear p442
 try clear p6
 try clear p64
 try clear q442
 obtain ⟨kq, x365_227, rfl, HA, HJ227, HO_7, HO_19, HO_27, HB⟩ := hcut
 cases kq with
 | zero => exact absurd HA.out (by simp [laws_FnWaysLead.j2])
 | succ kj227 =>
  have H := HA.out
  clear HA
  simp only [laws_FnWaysLead.j2] at H
  by_cases c236 : x365_227 = true
  ·subst c236
   rw [if_pos rfl] at H
   have H1 := H
   clear H
   have H := H1
   clear H1
   obtain rfl := Option.some.inj H
   go_wp2
   go_ret
   exact ⟨by first | rfl | (simp [errW_none, errW_some] <;> rfl) | (simp [*, errW_none, errW_some] <;> rfl), by repeat (first | (with_reducible first | exact HB.out | apply below_alloc | apply pw_below_drewN | apply below_drew1) | exact HB.out)⟩
  ·replace c236 := Bool.eq_false_iff.mpr c236
   subst c236
   rw [if_neg (show ¬ (false = true) by decide)] at H
   have H1 := H
   clear H
   have H := H1
   clear H1
   have H' := Aside0.mk H
   clear H
   obtain ⟨Ao237, co237, eo237⟩ := Kd.R_slice HO_27.out
   subst eo237
   go_wp2
   go_loopg [368] kj227 (fun kq v368 w' => ∃ (x368_4 : Int), v368 = .int .i64 x368_4 ∧ Aside0 (laws_FnWaysLead.l0 kq l1 t387 t388 t389 t397 t405 t406 t417 (t417.length : Int) x368_4 = some r) ∧ Aside0 (kq ≤ kj227) ∧ Aside0 (Kd.R (Kd.int .i64) 3 w' w.heap.size (fun k_ => some k_ ≠ ((.slice Ao237 t417.length co237) : Value).ownBlock) (.slice Ao229 t389.length co229) t389) ∧ Aside0 (Kd.R Kd.string 9 w' w.heap.size (fun _ => True) v407 t405) ∧ Aside0 (Kd.R (Kd.int .i64) 3 w' w.heap.size (fun k_ => some k_ ≠ ((.slice Ao229 t389.length co229) : Value).ownBlock) (.slice Ao237 t417.length co237) t417) ∧ Aside0 (Below w.heap.size w w'))
   case atStart => exact ⟨(0), (by first | rfl | (simp; done) | (simp [*]; done)), H', ⟨Nat.le_refl _⟩, ⟨by (with_reducible repeat (first | apply Kd.R_alloc | apply Kd.R_drewN | apply Kd.R_drew)); exact HO_7.out⟩, ⟨by (with_reducible repeat (first | apply Kd.R_alloc | apply Kd.R_drewN | apply Kd.R_drew)); exact HO_19.out⟩, ⟨by (with_reducible repeat (first | apply Kd.R_alloc | apply Kd.R_drewN | apply Kd.R_drew)); exact HO_27.out⟩, ⟨by repeat (first | (with_reducible first | exact HB.out | apply below_alloc | apply pw_below_drewN | apply below_drew1) | exact HB.out)⟩⟩
   case round =>
    repeat revert ‹_›
    intro HP0_
    exact HP0_.out

theorem laws_FnWaysLead.c11 : laws_FnWaysLead.c10.1 := by
 intro k A0 c0 l0 A1 c1 l1 r w HR0 HC0 HR1 HC1 A3 t387 t388 A5 t389 t393 t394 A7 t397 t398 A8 t399 t400 A9 t401 t402 A10 t403 t404 A11 t405 t406 A12 t409 t410 A13 t413 t414 A14 t415 t416 A15 t417 t418 A16 t421 t422 A17 _ _ _ w19 w20 w21 v395 w22 _ w23 w24 w25 v407 w26 v411 w27 nd w28 w29 v423 HO408 HO412 _ _ _ _ _ kj17 HJ17 _ _ kj148 HJ148 _ _ J_ K_ hK_ A6 t440 t441 A227 Ao229 co229 w230 _ _ f_ wc HO_19 HB kj227 HJ227 H' Ao237 co237 HO392 HO396 HO420 HO424 _ _ hJ_ _ _ HO_7 HO_27 gk wr u4 u41 u42 u43 u45 u368 u369 u370 u371 u372 u373 u374 u375 u376 u377 u378 u379 u380 u381 u382 u383 u384 u385 u386 u387 u388 hrel _ _ _ _
 clear H'
 try clear c1
 try clear c2
 try clear p2
 try clear c3
 try clear c4
 try clear p4
 try clear q4
 try clear hx4
 try clear qi4
 try clear c5
 try clear c6
 try clear p6
 try clear c7
 try clear c8
 try clear c9
 try clear c10
 try clear c11
 try clear c12
 try clear c13
 try clear c14
 try clear c15
 try clear c16
 try clear c17
 try clear c21
 try clear c22
 try clear c23
 try clear c30
 try clear c30b0
 try clear c30b1
 try clear c30b2
 try clear c32
 try clear c33
 try clear c33b0
 try clear c33b1
 try clear c33b2
 try clear c36
 try clear c36b0
 try clear c36b1
 try clear c37
 try clear c37b0
 try clear c37b1
 try clear c37b2
 try clear c40
 try clear c40b0
 try clear c40b1
 try clear c41
 try clear c41b0
 try clear c41b1
 try clear c41b2
 try clear p44
 try clear q44
 try clear hx44
 try clear qi44
 try clear c45
 try clear c46
 try clear c46b0
 try clear c46b1
 try clear c46b2
 try clear c51
 try clear c51b0
 try clear c51b1
 try clear c52
 try clear c52b0
 try clear c52b1
 try clear c52b2
 try clear c58
 try clear c59
 try clear c60
 try clear c60b0
 try clear c60b1
 try clear c60b2
 try clear p64
 try clear c67
 try clear c67b0
 try clear c67b1
 try clear c67b2
 try clear c74
 try clear c74b0
 try clear c74b1
 try clear c74b2
 try clear c81
 try clear c81b0
 try clear c81b1
 try clear c81b2
 try clear c94
 try clear c94b0
 try clear c94b1
 try clear c94b2
 try clear c101
 try clear c101b0
 try clear c101b1
 try clear c101b2
 try clear c108
 try clear c108b0
 try clear c108b1
 try clear c108b2
 try clear c115
 try clear c115b0
 try clear c115b1
 try clear c115b2
 try clear c148
 try clear c150
 try clear c155
 try clear c156
 try clear c156b0
 try clear c156b1
 try clear c157
 try clear c157b0
 try clear c157b1
 try clear c157b2
 try clear c162
 try clear c164
 try clear c166
 try clear c166b0
 try clear c166b1
 try clear c167
 try clear c168
 try clear c168b0
 try clear c168b1
 try clear c169
 try clear c170
 try clear c170b0
 try clear c170b1
 try clear c226
 try clear c231
 try clear c232
 try clear c232b0
 try clear c232b1
 try clear c233
 try clear c233b0
 try clear c233b1
 try clear c234
 try clear c235
 try clear c235b0
 try clear c235b1
 try clear c236
 try clear hx442_0
 try clear p2
 try clear p4
 try clear p44
 try clear p442
 try clear p6
 try clear p64
 try clear q4
 try clear q44
 try clear q442
 obtain ⟨x368_4, rfl, HA, HK4, HO_7, HO_19, HO_366, HB⟩ := hrel
 cases gk with
 | zero => exact absurd HA.out (by simp [laws_FnWaysLead.l0])
 | succ k4 =>
  have H := HA.out
  clear HA
  simp only [laws_FnWaysLead.l0] at H
  by_cases c238 : x368_4 < (t417.length : Int)
  ·rw [if_pos c238] at H
   have c238b0 : decide (x368_4 < (t417.length : Int)) = true := decide_eq_true c238
   clear c238
   by_cases c239 : 0 ≤ x368_4
   ·rw [if_pos c239] at H
    have c239b0 : decide (0 ≤ x368_4) = true := decide_eq_true c239
    clear c239
    by_cases c240 : x368_4 < (t417.length : Int)
    ·rw [if_pos c240] at H
     have c240b0 : decide (x368_4 < (t417.length : Int)) = true := decide_eq_true c240
     clear c240
     have H' := Aside0.mk H
     clear H
     have p443 : 0 ≤ (x368_4 : Int) := of_decide_eq_true (by first | (with_reducible assumption) | assumption)
     have q443 : x368_4 < (t417.length : Int) := of_decide_eq_true (by first | (with_reducible assumption) | assumption)
     obtain ⟨ad443, e443, hx443_0⟩ := Kd.at_int (Kd.R_reads' HO_366.out).2.2 x368_4 p443 q443
     cases e443
     replace p443 := eq_true p443
     replace q443 := eq_true q443
     go_wp2
     go_loopg [43, 375] k4 (fun kq v43 v375 w' => ∃ (x43_5 : Int) (x375_5 : Int), v43 = .int .i64 x43_5 ∧ v375 = .int .i64 x375_5 ∧ Aside0 (laws_FnWaysLead.l1 kq l1 t387 t388 t389 t397 t405 t406 x368_4 (rd t417 x368_4) x43_5 t417 (t417.length : Int) x368_4 t389 (t389.length : Int) x375_5 = some r) ∧ Aside0 (kq ≤ k4) ∧ Aside0 (Kd.R (Kd.int .i64) 3 w' w.heap.size (fun k_ => some k_ ≠ ((.slice (some ad443) t417.length co237) : Value).ownBlock) (.slice Ao229 t389.length co229) t389) ∧ Aside0 (Kd.R Kd.string 9 w' w.heap.size (fun _ => True) v407 t405) ∧ Aside0 (Kd.R (Kd.int .i64) 3 w' w.heap.size (fun k_ => some k_ ≠ ((.slice Ao229 t389.length co229) : Value).ownBlock ∧ some k_ ≠ ((.slice Ao229 t389.length co229) : Value).ownBlock) (.slice (some ad443) t417.length co237) t417) ∧ Aside0 (Kd.R (Kd.int .i64) 3 w' w.heap.size (fun k_ => some k_ ≠ ((.slice (some ad443) t417.length co237) : Value).ownBlock) (.slice Ao229 t389.length co229) t389) ∧ Aside0 (Below w.heap.size w w'))
     case atStart => exact ⟨(0), (0), (by first | rfl | (simp; done) | (simp [*]; done)), (by first | rfl | (simp; done) | (simp [*]; done)), H', ⟨Nat.le_refl _⟩, ⟨by (with_reducible repeat (first | apply Kd.R_alloc | apply Kd.R_drewN | apply Kd.R_drew)); exact HO_7.out⟩, ⟨by (with_reducible repeat (first | apply Kd.R_alloc | apply Kd.R_drewN | apply Kd.R_drew)); exact HO_19.out⟩, ⟨by (with_reducible repeat (first | apply Kd.R_alloc | apply Kd.R_drewN | apply Kd.R_drew)); exact Kd.R_mono HO_366.out (fun _ hk => ⟨hk, hk⟩)⟩, ⟨by (with_reducible repeat (first | apply Kd.R_alloc | apply Kd.R_drewN | apply Kd.R_drew)); exact HO_7.out⟩, ⟨by repeat (first | (with_reducible first | exact HB.out | apply below_alloc | apply pw_below_drewN | apply below_drew1) | exact HB.out)⟩⟩
     case round =>
      clear H'
      try clear c1
      try clear c2
      try clear p2
      try clear c3
      try clear c4
      try clear p4
      try clear q4
      try clear hx4
      try clear qi4
      try clear c5
      try clear c6
      try clear p6
      try clear c7
      try clear c8
      try clear c9
      try clear c10
      try clear c11
      try clear c12
      try clear c13
      try clear c14
      try clear c15
      try clear c16
      try clear c17
      try clear c21
      try clear c22
      try clear c23
      try clear c24
      try clear c30
      try clear c30b0
      try clear c30b1
      try clear c30b2
      try clear c32
      try clear c33
      try clear c33b0
      try clear c33b1
      try clear c33b2
      try clear c36
      try clear c36b0
      try clear c36b1
      try clear c37
      try clear c37b0
      try clear c37b1
      try clear c37b2
      try clear c40
      try clear c40b0
      try clear c40b1
      try clear c41
      try clear c41b0
      try clear c41b1
      try clear c41b2
      try clear p44
      try clear q44
      try clear hx44
      try clear qi44
      try clear c45
      try clear c46
      try clear c46b0
      try clear c46b1
      try clear c46b2
      try clear c51
      try clear c51b0
      try clear c51b1
      try clear c52
      try clear c52b0
      try clear c52b1
      try clear c52b2
      try clear c58
      try clear c59
      try clear c60
      try clear c60b0
      try clear c60b1
      try clear c60b2
      try clear p64
      try clear c67
      try clear c67b0
      try clear c67b1
      try clear c67b2
      try clear c74
      try clear c74b0
      try clear c74b1
      try clear c74b2
      try clear c81
      try clear c81b0
      try clear c81b1
      try clear c81b2
      try clear c94
      try clear c94b0
      try clear c94b1
      try clear c94b2
      try clear c101
      try clear c101b0
      try clear c101b1
      try clear c101b2
      try clear c108
      try clear c108b0
      try clear c108b1
      try clear c108b2
      try clear c115
      try clear c115b0
      try clear c115b1
      try clear c115b2
      try clear c148
      try clear c150
      try clear c155
      try clear c156
      try clear c156b0
      try clear c156b1
      try clear c157
      try clear c157b0
      try clear c157b1
      try clear c157b2
      try clear c162
      try clear c164
      try clear c166
      try clear c166b0
      try clear c166b1
      try clear c167
      try clear c168
      try clear c168b0
      try clear c168b1
      try clear c169
      try clear c170
      try clear c170b0
      try clear c170b1
      try clear c226
      try clear c231
      try clear c232
      try clear c232b0
      try clear c232b1
      try clear c233
      try clear c233b0
      try clear c233b1
      try clear c234
      try clear c235
      try clear c235b0
      try clear c235b1
      try clear c236
      try clear c238
      try clear c238b0
      try clear c239
      try clear c239b0
      try clear c240
      try clear c240b0
      try clear hx442_0
      try clear hx443_0
      try clear p2
      try clear p4
      try clear p44
      try clear p442
      try clear p443
      try clear p6
      try clear p64
      try clear q4
      try clear q44
      try clear q442
      try clear q443
      obtain ⟨x43_5, x375_5, rfl, rfl, HA, HK5, HO_7, HO_19, HO_366, HO_373, HB⟩ := hrel
      cases gk with
      | zero => exact absurd HA.out (by simp [laws_FnWaysLead.l1])
      | succ k5 =>
       have H := HA.out
       clear HA
       simp only [laws_FnWaysLead.l1] at H
       by_cases c241 : x375_5 < (t389.length : Int)
       ·rw [if_pos c241] at H
        have c241b0 : decide (x375_5 < (t389.length : Int)) = true := decide_eq_true c241
        clear c241
        by_cases c242 : 0 ≤ x375_5
        ·rw [if_pos c242] at H
         have c242b0 : decide (0 ≤ x375_5) = true := decide_eq_true c242
         clear c242
         by_cases c243 : x375_5 < (t389.length : Int)
         ·rw [if_pos c243] at H
          have c243b0 : decide (x375_5 < (t389.length : Int)) = true := decide_eq_true c243
          clear c243
          by_cases c244 : (rd t389 x375_5) = x368_4
          ·rw [if_pos c244] at H
           have c244b0 : ((rd t389 x375_5) == x368_4) = true := beq_iff_eq.mpr c244
           have c244b1 : ((rd t389 x375_5) != x368_4) = false := bne_eq_false_iff_eq.mpr c244
           clear c244
           have H' := Aside0.mk H
           clear H
           have p444 : 0 ≤ (x375_5 : Int) := of_decide_eq_true (by first | (with_reducible assumption) | assumption)
           have q444 : x375_5 < (t389.length : Int) := of_decide_eq_true (by first | (with_reducible assumption) | assumption)
           obtain ⟨ad444, e444, hx444_0⟩ := Kd.at_int (Kd.R_reads' HO_373.out).2.2 x375_5 p444 q444
           cases e444
           replace p444 := eq_true p444
           replace q444 := eq_true q444
           go_wp2
           go_roundg k5
           case measure => have := HJ17.out; have := HJ148.out; have := HJ227.out; have := HK4.out; have := HK5.out; omega
           case rel => exact ⟨(wrap64 (x43_5 + 1)), (wrap64 (x375_5 + 1)), (by first | rfl | ((conv => lhs; whnf); first | rfl | (simp; done) | (simp [*]; done))), (by first | rfl | ((conv => lhs; whnf); first | rfl | (simp; done) | (simp [*]; done))), H', ⟨by have := HJ17.out; have := HJ148.out; have := HJ227.out; have := HK4.out; have := HK5.out; omega⟩, ⟨by (with_reducible repeat (first | apply Kd.R_alloc | apply Kd.R_drewN | apply Kd.R_drew)); exact HO_7.out⟩, ⟨by (with_reducible repeat (first | apply Kd.R_alloc | apply Kd.R_drewN | apply Kd.R_drew)); exact HO_19.out⟩, ⟨by (with_reducible repeat (first | apply Kd.R_alloc | apply Kd.R_drewN | apply Kd.R_drew)); exact HO_366.out⟩, ⟨by (with_reducible repeat (first | apply Kd.R_alloc | apply Kd.R_drewN | apply Kd.R_drew)); exact HO_373.out⟩, ⟨by repeat (first | (with_reducible first | exact HB.out | apply below_alloc | apply pw_below_drewN | apply below_drew1) | exact HB.out)⟩⟩
          ·rw [if_neg c244] at H
           have c244b0 : ((rd t389 x375_5) == x368_4) = false := beq_eq_false_iff_ne.mpr c244
           have c244b1 : ((rd t389 x375_5) != x368_4) = true := bne_iff_ne.mpr c244
           have H' := Aside0.mk H
           clear H
           have p444 : 0 ≤ (x375_5 : Int) := of_decide_eq_true (by first | (with_reducible assumption) | assumption)
           have q444 : x375_5 < (t389.length : Int) := of_decide_eq_true (by first | (with_reducible assumption) | assumption)
           obtain ⟨ad444, e444, hx444_0⟩ := Kd.at_int (Kd.R_reads' HO_373.out).2.2 x375_5 p444 q444
           cases e444
           replace p444 := eq_true p444
           replace q444 := eq_true q444
           go_wp2
           go_roundg k5
           case measure => have := HJ17.out; have := HJ148.out; have := HJ227.out; have := HK4.out; have := HK5.out; omega
           case rel => exact ⟨(x43_5), (wrap64 (x375_5 + 1)), (by first | rfl | ((conv => lhs; whnf); first | rfl | (simp; done) | (simp [*]; done))), (by first | rfl | ((conv => lhs; whnf); first | rfl | (simp; done) | (simp [*]; done))), H', ⟨by have := HJ17.out; have := HJ148.out; have := HJ227.out; have := HK4.out; have := HK5.out; omega⟩, ⟨by (with_reducible repeat (first | apply Kd.R_alloc | apply Kd.R_drewN | apply Kd.R_drew)); exact HO_7.out⟩, ⟨by (with_reducible repeat (first | apply Kd.R_alloc | apply Kd.R_drewN | apply Kd.R_drew)); exact HO_19.out⟩, ⟨by (with_reducible repeat (first | apply Kd.R_alloc | apply Kd.R_drewN | apply Kd.R_drew)); exact HO_366.out⟩, ⟨by (with_reducible repeat (first | apply Kd.R_alloc | apply Kd.R_drewN | apply Kd.R_drew)); exact HO_373.out⟩, ⟨by repeat (first | (with_reducible first | exact HB.out | apply below_alloc | apply pw_below_drewN | apply below_drew1) | exact HB.out)⟩⟩
         ·rw [if_neg c243] at H
          exact absurd H (by simp)
        ·rw [if_neg c242] at H
         exact absurd H (by simp)
       ·rw [if_neg c241] at H
        have c241b0 : decide (x375_5 < (t389.length : Int)) = false := decide_eq_false c241
        clear c241
        by_cases c245 : x43_5 = (rd t417 x368_4)
        ·rw [if_pos c245] at H
         have c245b0 : (x43_5 == (rd t417 x368_4)) = true := beq_iff_eq.mpr c245
         have c245b1 : (x43_5 != (rd t417 x368_4)) = false := bne_eq_false_iff_eq.mpr c245
         clear c245
         have H' := Aside0.mk H
         clear H
         go_wp2
         go_roundg k5
         case measure => have := HJ17.out; have := HJ148.out; have := HJ227.out; have := HK4.out; have := HK5.out; omega
         case rel => exact ⟨(wrap64 (x368_4 + 1)), (by first | rfl | ((conv => lhs; whnf); first | rfl | (simp; done) | (simp [*]; done))), H', ⟨by have := HJ17.out; have := HJ148.out; have := HJ227.out; have := HK4.out; have := HK5.out; omega⟩, ⟨by (with_reducible repeat (first | apply Kd.R_alloc | apply Kd.R_drewN | apply Kd.R_drew)); exact HO_7.out⟩, ⟨by (with_reducible repeat (first | apply Kd.R_alloc | apply Kd.R_drewN | apply Kd.R_drew)); exact HO_19.out⟩, ⟨by (with_reducible repeat (first | apply Kd.R_alloc | apply Kd.R_drewN | apply Kd.R_drew)); exact Kd.R_mono HO_366.out (fun _ hk => hk.1)⟩, ⟨by repeat (first | (with_reducible first | exact HB.out | apply below_alloc | apply pw_below_drewN | apply below_drew1) | exact HB.out)⟩⟩
        ·rw [if_neg c245] at H
         have c245b0 : (x43_5 == (rd t417 x368_4)) = false := beq_eq_false_iff_ne.mpr c245
         have c245b1 : (x43_5 != (rd t417 x368_4)) = true := bne_iff_ne.mpr c245
         obtain rfl := Option.some.inj H
         go_wp2
         go_ret
         exact ⟨by first | rfl | (simp [errW_none, errW_some] <;> rfl) | (simp [*, errW_none, errW_some] <;> rfl), by repeat (first | (with_reducible first | exact HB.out | apply below_alloc | apply pw_below_drewN | apply below_drew1) | exact HB.out)⟩
    ·rw [if_neg c240] at H
     exact absurd H (by simp)
   ·rw [if_neg c239] at H
    exact absurd H (by simp)
  ·rw [if_neg c238] at H
   have c238b0 : decide (x368_4 < (t417.length : Int)) = false := decide_eq_false c238
   clear c238
   have H' := Aside0.mk H
   clear H
   go_wp2
   refine Met.intro (hJ_ _ _ ?mg_ ?rel)
   case mg_ => kernel_rfl
   case rel => exact ⟨_, H', ⟨by have := HJ17.out; have := HJ148.out; have := HJ227.out; have := HK4.out; first | omega | exact Nat.le_refl _⟩, ⟨by (with_reducible repeat (first | apply Kd.R_alloc | apply Kd.R_drewN | apply Kd.R_drew)); exact HO_19.out⟩, ⟨by repeat (first | (with_reducible first | exact HB.out | apply below_alloc | apply pw_below_drewN | apply below_drew1) | exact HB.out)⟩⟩

def laws_FnWaysLead.c12 : PSigma fun P0_ : Prop => PSigma fun P1_ : Prop => Hole P0_ → Hole P1_ → laws_FnWaysLead.c8.2.1 := by
 refine' ⟨_, _, fun HP0_ HP1_ => _⟩
 rotate_left 2
 intro k A0 c0 l0 A1 c1 l1 r w HR0 HC0 HR1 HC1 A3 t387 t388 A5 t389 t390 A6 t393 t394 A7 t397 t398 A8 t399 t400 A9 t401 t402 A10 t403 t404 A11 t405 t406 A12 t409 t410 A13 t413 t414 A14 t415 t416 A15 t417 t418 A16 t421 t422 A17 _ _ _ w19 w20 v391 w21 v395 w22 _ w23 w24 w25 v407 w26 v411 w27 nd w28 v419 w29 v423 HO392 HO396 HO408 HO412 HO420 HO424 _ _ _ _ _ _ _ kj17 HJ17 _ _ HO_7 HO_19 HO_27 HB kj148 HJ148 HC225 _ _ f_ wc hcut
 clear HC225
 try clear c1
 try clear c2
 try clear p2
 try clear c3
 try clear c4
 try clear p4
 try clear q4
 try clear hx4
 try clear qi4
 try clear c5
 try clear c6
 try clear p6
 try clear c7
 try clear c8
 try clear c9
 try clear c10
 try clear c11
 try clear c12
 try clear c13
 try clear c14
 try clear c15
 try clear c16
 try clear c17
 try clear c21
 try clear c22
 try clear c23
 try clear c24
 try clear c30
 try clear c30b0
 try clear c30b1
 try clear c30b2
 try clear c32
 try clear c33
 try clear c33b0
 try clear c33b1
 try clear c33b2
 try clear c36
 try clear c36b0
 try clear c36b1
 try clear c37
 try clear c37b0
 try clear c37b1
 try clear c37b2
 try clear c40
 try clear c40b0
 try clear c40b1
 try clear c41
 try clear c41b0
 try clear c41b1
 try clear c41b2
 try clear p44
 try clear q44
 try clear hx44
 try clear qi44
 try clear c45
 try clear c46
 try clear c46b0
 try clear c46b1
 try clear c46b2
 try clear c51
 try clear c51b0
 try clear c51b1
 try clear c52
 try clear c52b0
 try clear c52b1
 try clear c52b2
 try clear c58
 try clear c59
 try clear c60
 try clear c60b0
 try clear c60b1
 try clear c60b2
 try clear p64
 try clear c67
 try clear c67b0
 try clear c67b1
 try clear c67b2
 try clear c74
 try clear c74b0
 try clear c74b1
 try clear c74b2
 try clear c81
 try clear c81b0
 try clear c81b1
 try clear c81b2
 try clear c94
 try clear c94b0
 try clear c94b1
 try clear c94b2
 try clear c101
 try clear c101b0
 try clear c101b1
 try clear c101b2
 try clear c108
 try clear c108b0
 try clear c108b1
 try clear c108b2
 try clear c115
 try clear c115b0
 try clear c115b1
 try clear c115b2
 try clear c148
 try clear c150
 try clear c155
 try clear c156
 try clear c156b0
 try clear c156b1
 try clear c157
 try clear c157b0
 try clear c157b1
 try clear c157b2
 try clear c162
 try clear c164
 try clear c166
 try clear c166b0
 try clear c166b1
 try clear c167
 try clear c168
 try clear c168b0
 try clear c168b1
 try clear c169
 try clear c170
 try clear c170b0
 try clear c170b1
 try clear c226
 try clear c231
 try clear c232
 try clear c232b0
 try clear c232b1
 try clear c233
 try clear c233b0
 try clear c233b1
 try clear c234
 try clear c235
 try clear c235b0
 try clear c235b1
 try clear c236
 try clear c238
 try clear c238b0
 try clear c239
 try clear c239b0
 try clear c240
 try clear c240b0
 try clear c241
 try clear c241b0
 try clear c242
 try clear c242b0
 try clear c243
 try clear c243b0
 try clear c244
 try clear c244b0
 try clear c244b1
 try clear c245
 try clear c245b0
 try clear c245b1
 try clear hx442_0
 try clear hx443_0
 try clear hx444_0
 try clear p2
 try clear p4
 try clear p44
 try clear p442
 try clear p443
 try clear p444
 try clear p6
 try clear p64
 try clear q4
 try clear q44
 try clear q442
 try clear q443
 try clear q444
 obtain ⟨kq, HA, HJ224, HO_19, HB⟩ := hcut
 cases kq with
 | zero => exact absurd HA.out (by simp [laws_FnWaysLead.j5])
 | succ kj224 =>
  have H := HA.out
  clear HA
  simp only [laws_FnWaysLead.j5] at H
  have HC246 := Aside0.mk H
  clear H
  go_upto_if 389 with (fail)
  refine wp_cutF [o_,o_,o_,o_,i_,o_,o_,o_,o_,o_,o_,o_,o_,o_,o_,o_,o_,o_,o_,o_,o_,o_,o_,o_,o_,o_,o_,o_,o_,o_,o_,o_,o_,o_,o_,o_,o_,o_,o_,o_,o_,o_,o_,o_,o_,o_,i_,i_,i_,o_,o_,o_,o_,o_,o_,o_,o_,o_,o_,o_,o_,o_,o_,o_,o_,o_,o_,o_,o_,o_,o_,o_,o_,o_,o_,o_,o_,o_,o_,o_,i_,i_,i_,i_,i_,i_,i_,i_,i_,i_,i_,i_,i_,i_,i_,i_,i_,i_,i_,i_,i_,i_,i_,i_,i_,i_,i_,i_,i_,i_,i_,i_,i_,i_,i_,i_,i_,i_,i_,i_,i_,i_,i_,i_,i_,i_,i_,i_,i_,i_,i_,i_,i_,i_,i_,i_,i_,i_,i_,i_,i_,i_,i_,i_,i_,i_,i_,i_,i_,i_,i_,i_,i_,i_,i_,i_,i_,i_,i_,i_,i_,i_,i_,i_,i_,i_,i_,i_,i_,i_,i_,i_,i_,i_,i_,i_,i_,i_,i_,i_,i_,i_,i_,i_,i_,i_,i_,i_,i_,i_,i_,i_,i_,i_,i_,i_,i_,i_,i_,i_,i_,i_,i_,i_,i_,i_,i_,i_,i_,i_,i_,i_,i_,i_,i_,i_,i_,i_,i_,i_,i_,i_,i_,i_,i_,i_,i_,i_,i_,i_,i_,i_,i_,i_,i_,i_,i_,i_,i_,i_,i_,i_,i_,i_,i_,i_,i_,i_,i_,i_,i_,i_,i_,i_,i_,i_,i_,i_,i_,i_,i_,i_,i_,i_,i_,i_,i_,i_,i_,i_,i_,i_,i_,i_,i_,i_,i_,i_,i_,i_,i_,i_,i_,i_,i_,i_,i_,i_,i_,i_,i_,i_,i_,i_,i_,i_,i_,i_,i_,i_,i_,i_,i_,i_,i_,i_,i_,i_,i_,i_,i_,i_,i_,i_,i_,i_,i_,i_,i_,i_,i_,i_,i_,i_,i_,i_,i_,i_,i_,i_,i_,i_,i_,i_,i_,i_,i_,i_,i_,i_,i_,i_,i_,i_,i_,i_,i_,i_,i_,i_,i_,i_,i_,i_,i_,i_,i_,i_,i_,i_,i_,i_,i_,i_,i_,i_,o_,o_,o_,i_,i_,i_,i_,o_,o_,o_,i_,i_,i_,i_,i_,i_,i_,i_,i_,i_,i_,i_,i_,i_,i_,i_,i_,i_,i_,i_,i_,i_,i_,i_,i_,i_,i_,i_,i_,i_,i_,i_,i_,i_,i_,i_,i_,i_,i_,i_,i_,i_,i_,i_,i_,i_,i_,i_,i_,i_,i_,i_,i_,i_,i_,i_,i_,i_,i_,i_,i_,i_,i_,i_,i_,i_,i_,i_,i_,i_,i_,i_,i_,i_,i_,i_,i_,i_,i_,i_,i_,i_,i_,i_,i_,i_,i_,i_,i_,i_,i_,i_,i_,i_,i_,i_,i_,i_,i_,i_,i_,i_,i_,i_,i_,i_,i_,i_,i_,i_,i_,i_,i_,i_,i_,i_,i_,i_,i_,i_,i_,i_,i_,i_,i_,i_,i_,i_,i_,i_,i_,i_,i_,i_,i_,i_,i_,i_,i_,i_,i_,i_,i_,i_,i_,i_,i_,i_,i_,i_,i_,i_,i_,i_,i_,i_,i_,i_,i_,i_,i_,i_,i_,i_,i_,i_,i_,i_,i_,i_,i_,i_,i_,i_,i_,i_,i_,i_,i_,i_,i_,i_,i_,i_,i_,i_,i_,i_,i_,i_,i_,i_,i_,i_,i_,i_,i_,i_,i_,i_,i_,i_,i_,i_,i_,i_,i_,i_,i_,i_,i_,i_,i_,i_,i_,i_,i_,i_,i_,i_,i_,i_,i_,i_,i_,i_,i_,i_,i_,i_,i_,i_,i_,i_,i_,i_,i_,i_,i_,i_,i_] (fun f_ wc => ∃ (kq : Nat), Aside0 (laws_FnWaysLead.j9 kq l1 = some r) ∧ Aside0 (kq ≤ kj224) ∧ Aside0 (Below w.heap.size w wc)) ?rest ?first
  case first =>
   intro J_ K_ hJ_ hK_
   repeat revert ‹_›
   intro HP0_ HP1_
   exact HP0_.out
  case rest =>
   intro f_ wc hcut
   dsimp only [maskF] at hcut ⊢
   repeat revert ‹_›
   intro HP0_ HP1_
   exact HP1_.out

def laws_FnWaysLead.c13 : PSigma fun P0_ : Prop => Hole P0_ → laws_FnWaysLead.c12.1 := by
 refine' ⟨_, fun HP0_ => _⟩
 rotate_left 1
 intro k A0 c0 l0 A1 c1 l1 r w HR0 HC0 HR1 HC1 A3 t387 t388 A5 t389 t390 A6 t393 t394 A7 t397 t398 A8 t399 t400 A9 t401 t402 A10 t403 t404 A11 t405 t406 A12 t409 t410 A13 t413 t414 A14 t415 t416 A15 t417 t418 A16 t421 t422 A17 _ _ _ w19 w20 v391 w21 v395 w22 _ w23 w24 w25 v407 w26 v411 w27 nd w28 v419 w29 v423 HO392 HO396 HO408 HO412 HO420 HO424 _ _ _ _ _ _ _ kj17 HJ17 _ _ HO_7 _ HO_27 _ kj148 HJ148 f_ wc HO_19 HB kj224 HJ224 HC246 _ _ J_ K_ hJ_ hK_
 have H := HC246.out
 clear HC246
 by_cases c247 : t406 = true
 ·subst c247
  rw [if_pos rfl] at H
  have H1 := H
  clear H
  have H := H1
  clear H1
  have HC248 := Aside0.mk H
  clear H
  go_upto_region 43 with (fail)
  refine wp_cutF [o_,o_,o_,o_,o_,o_,o_,o_,o_,o_,o_,o_,o_,o_,o_,o_,o_,o_,o_,o_,o_,o_,o_,o_,o_,o_,o_,o_,o_,o_,o_,o_,o_,o_,o_,o_,o_,o_,o_,o_,o_,o_,o_,o_,o_,o_,o_,o_,o_,o_,o_,o_,o_,o_,o_,o_,o_,o_,o_,o_,o_,o_,o_,o_,o_,o_,o_,o_,o_,o_,o_,o_,o_,o_,o_,o_,o_,o_,o_,o_,i_,i_,i_,i_,i_,i_,i_,i_,i_,i_,i_,i_,i_,i_,i_,i_,i_,i_,i_,i_,i_,i_,i_,i_,i_,i_,i_,i_,i_,i_,i_,i_,i_,i_,i_,i_,i_,i_,i_,i_,i_,i_,i_,i_,i_,i_,i_,i_,i_,i_,i_,i_,i_,i_,i_,i_,i_,i_,i_,i_,i_,i_,i_,i_,i_,i_,i_,i_,i_,i_,i_,i_,i_,i_,i_,i_,i_,i_,i_,i_,i_,i_,i_,i_,i_,i_,i_,i_,i_,i_,i_,i_,i_,i_,i_,i_,i_,i_,i_,i_,i_,i_,i_,i_,i_,i_,i_,i_,i_,i_,i_,i_,i_,i_,i_,i_,i_,i_,i_,i_,i_,i_,i_,i_,i_,i_,i_,i_,i_,i_,i_,i_,i_,i_,i_,i_,i_,i_,i_,i_,i_,i_,i_,i_,i_,i_,i_,i_,i_,i_,i_,i_,i_,i_,i_,i_,i_,i_,i_,i_,i_,i_,i_,i_,i_,i_,i_,i_,i_,i_,i_,i_,i_,i_,i_,i_,i_,i_,i_,i_,i_,i_,i_,i_,i_,i_,i_,i_,i_,i_,i_,i_,i_,i_,i_,i_,i_,i_,i_,i_,i_,i_,i_,i_,i_,i_,i_,i_,i_,i_,i_,i_,i_,i_,i_,i_,i_,i_,i_,i_,i_,i_,i_,i_,i_,i_,i_,i_,i_,i_,i_,i_,i_,i_,i_,i_,i_,i_,i_,i_,i_,i_,i_,i_,i_,i_,i_,i_,i_,i_,i_,i_,i_,i_,i_,i_,i_,i_,i_,i_,i_,i_,i_,i_,i_,i_,i_,i_,i_,i_,i_,i_,i_,i_,i_,i_,i_,i_,i_,i_,i_,i_,i_,i_,i_,i_,o_,o_,o_,i_,i_,i_,i_,o_,o_,o_,i_,i_,i_,i_,i_,i_,i_,i_,i_,i_,i_,i_,i_,i_,i_,i_,i_,i_,i_,i_,i_,i_,i_,i_,i_,i_,i_,i_,i_,i_,i_,i_,i_,i_,i_,i_,i_,i_,i_,i_,i_,i_,i_,i_,i_,i_,i_,i_,i_,i_,i_,i_,i_,i_,i_,i_,i_,i_,i_,i_,i_,i_,i_,i_,i_,i_,i_,i_,i_,i_,i_,i_,i_,i_,i_,i_,i_,i_,i_,i_,i_,i_,i_,i_,i_,i_,i_,i_,i_,i_,i_,i_,i_,i_,i_,i_,i_,i_,i_,i_,i_,i_,i_,i_,i_,i_,i_,i_,i_,i_,i_,i_,i_,i_,i_,i_,i_,i_,i_,i_,i_,i_,i_,i_,i_,i_,i_,i_,i_,i_,i_,i_,i_,i_,i_,i_,i_,i_,i_,i_,i_,i_,i_,i_,i_,i_,i_,i_,i_,i_,i_,i_,i_,i_,i_,i_,i_,i_,i_,i_,i_,i_,i_,i_,i_,i_,i_,i_,i_,i_,i_,i_,i_,i_,i_,i_,i_,i_,i_,i_,i_,i_,i_,i_,i_,i_,i_,i_,i_,i_,i_,i_,i_,i_,i_,i_,i_,i_,i_,i_,i_,i_,i_,i_,i_,i_,i_,i_,i_,i_,i_,i_,i_,i_,i_,i_,i_,i_,i_,i_,i_,i_,i_,i_,i_,i_,i_,i_,i_,i_,i_,i_,i_,i_,i_,i_,i_,i_,i_,i_,i_] (fun f_ wc => ∃ (kq : Nat) (x409_247 : Bool), (f_ 409) = .bool x409_247 ∧ Aside0 (laws_FnWaysLead.j6 kq l1 t405 x409_247 = some r) ∧ Aside0 (kq ≤ kj224) ∧ Aside0 (Kd.R Kd.string 9 wc w.heap.size (fun _ => True) v407 t405) ∧ Aside0 (Below w.heap.size w wc)) ?rest ?first
  case first =>
   intro J_ K_ hJ_ hK_
   have H := HC248.out
   clear HC248
   by_cases c249 : (t405.length : Int) = (wrap64 (t397 + 1))
   ·rw [if_pos c249] at H
    have c249b0 : ((t405.length : Int) == (wrap64 (t397 + 1))) = true := beq_iff_eq.mpr c249
    have c249b1 : ((t405.length : Int) != (wrap64 (t397 + 1))) = false := bne_eq_false_iff_eq.mpr c249
    clear c249
    (first | rw [c249b0] | (simp only [i64_w, i32_w]; rw [c249b0]) | skip)
    by_cases c250 : 0 < (t405.length : Int)
    ·rw [if_pos c250] at H
     have c250b0 : decide (0 < (t405.length : Int)) = true := decide_eq_true c250
     have c250b1 : decide (0 < t405.length) = true := decide_eq_true (by omega)
     clear c250
     by_cases c251 : (rdOf ByteArray.empty t405 0).toList = t387.toList
     ·rw [if_pos c251] at H
      have c251b0 : ((rdOf ByteArray.empty t405 0).toList == t387.toList) = true := beq_iff_eq.mpr c251
      have c251b1 : ((rdOf ByteArray.empty t405 0).toList != t387.toList) = false := bne_eq_false_iff_eq.mpr c251
      clear c251
      by_cases c252 : 0 ≤ t397
      ·rw [if_pos c252] at H
       have c252b0 : decide (0 ≤ t397) = true := decide_eq_true c252
       clear c252
       by_cases c253 : t397 < (t405.length : Int)
       ·rw [if_pos c253] at H
        have c253b0 : decide (t397 < (t405.length : Int)) = true := decide_eq_true c253
        clear c253
        have H' := Aside0.mk H
        clear H
        obtain ⟨Ao254, co254, eo254⟩ := Kd.R_slice HO_19.out
        subst eo254
        have p445 : 0 ≤ (0 : Int) := (by omega)
        have q445 : 0 < (t405.length : Int) := of_decide_eq_true (by first | (with_reducible assumption) | assumption)
        obtain ⟨ad445, e445, hx445_0⟩ := Kd.at_string (Kd.R_reads' HO_19.out).2.2 0 p445 q445
        cases e445
        have qi445 : (0 < t405.length) = True := eq_true (by omega)
        (try rw [show ((0 : Int)).toNat = 0 from rfl] at hx445_0)
        (try rw [Addr.add_zero'] at hx445_0)
        replace p445 := eq_true p445
        replace q445 := eq_true q445
        have p446 : 0 ≤ (t397 : Int) := of_decide_eq_true (by first | (with_reducible assumption) | assumption)
        have q446 : t397 < (t405.length : Int) := of_decide_eq_true (by first | (with_reducible assumption) | assumption)
        obtain ⟨ad446, e446, hx446_0⟩ := Kd.at_string (Kd.R_reads' HO_19.out).2.2 t397 p446 q446
        obtain rfl : ad445 = ad446 := (by injection e446)
        replace p446 := eq_true p446
        replace q446 := eq_true q446
        go_wp2
        refine Met.intro (hJ_ _ _ ?mg_ ?rel)
        case mg_ => kernel_rfl
        case rel => exact ⟨_, (((rdOf ByteArray.empty t405 t397).toList != t388.toList)), (by first | rfl | ((conv => lhs; whnf); first | rfl | (simp; done) | (simp [*]; done))), H', ⟨by have := HJ17.out; have := HJ148.out; have := HJ224.out; first | omega | exact Nat.le_refl _⟩, ⟨by (with_reducible repeat (first | apply Kd.R_alloc | apply Kd.R_drewN | apply Kd.R_drew)); exact HO_19.out⟩, ⟨by repeat (first | (with_reducible first | exact HB.out | apply below_alloc | apply pw_below_drewN | apply below_drew1) | exact HB.out)⟩⟩
       ·rw [if_neg c253] at H
        exact absurd H (by simp)
      ·rw [if_neg c252] at H
       exact absurd H (by simp)
     ·rw [if_neg c251] at H
      have c251b0 : ((rdOf ByteArray.empty t405 0).toList == t387.toList) = false := beq_eq_false_iff_ne.mpr c251
      have c251b1 : ((rdOf ByteArray.empty t405 0).toList != t387.toList) = true := bne_iff_ne.mpr c251
      have H' := Aside0.mk H
      clear H
      obtain ⟨Ao255, co255, eo255⟩ := Kd.R_slice HO_19.out
      subst eo255
      have p445 : 0 ≤ (0 : Int) := (by omega)
      have q445 : 0 < (t405.length : Int) := of_decide_eq_true (by first | (with_reducible assumption) | assumption)
      obtain ⟨ad445, e445, hx445_0⟩ := Kd.at_string (Kd.R_reads' HO_19.out).2.2 0 p445 q445
      cases e445
      have qi445 : (0 < t405.length) = True := eq_true (by omega)
      (try rw [show ((0 : Int)).toNat = 0 from rfl] at hx445_0)
      (try rw [Addr.add_zero'] at hx445_0)
      replace p445 := eq_true p445
      replace q445 := eq_true q445
      go_wp2
      refine Met.intro (hJ_ _ _ ?mg_ ?rel)
      case mg_ => kernel_rfl
      case rel => exact ⟨_, (true), (by first | rfl | ((conv => lhs; whnf); first | rfl | (simp; done) | (simp [*]; done))), H', ⟨by have := HJ17.out; have := HJ148.out; have := HJ224.out; first | omega | exact Nat.le_refl _⟩, ⟨by (with_reducible repeat (first | apply Kd.R_alloc | apply Kd.R_drewN | apply Kd.R_drew)); exact HO_19.out⟩, ⟨by repeat (first | (with_reducible first | exact HB.out | apply below_alloc | apply pw_below_drewN | apply below_drew1) | exact HB.out)⟩⟩
    ·rw [if_neg c250] at H
     exact absurd H (by simp)
   ·rw [if_neg c249] at H
    have c249b0 : ((t405.length : Int) == (wrap64 (t397 + 1))) = false := beq_eq_false_iff_ne.mpr c249
    have c249b1 : ((t405.length : Int) != (wrap64 (t397 + 1))) = true := bne_iff_ne.mpr c249
    (first | rw [c249b0] | (simp only [i64_w, i32_w]; rw [c249b0]) | skip)
    have H' := Aside0.mk H
    clear H
    obtain ⟨Ao256, co256, eo256⟩ := Kd.R_slice HO_19.out
    subst eo256
    go_wp2
    refine Met.intro (hJ_ _ _ ?mg_ ?rel)
    case mg_ => kernel_rfl
    case rel => exact ⟨_, (true), (by first | rfl | ((conv => lhs; whnf); first | rfl | (simp; done) | (simp [*]; done))), H', ⟨by have := HJ17.out; have := HJ148.out; have := HJ224.out; first | omega | exact Nat.le_refl _⟩, ⟨by (with_reducible repeat (first | apply Kd.R_alloc | apply Kd.R_drewN | apply Kd.R_drew)); exact HO_19.out⟩, ⟨by repeat (first | (with_reducible first | exact HB.out | apply below_alloc | apply pw_below_drewN | apply below_drew1) | exact HB.out)⟩⟩
  case rest =>
   intro f_ wc hcut
   dsimp only [maskF] at hcut ⊢
   generalize f_ 409 = u409 at hcut ⊢
   repeat revert ‹_›
   intro HP0_
   exact HP0_.out
 ·replace c247 := Bool.eq_false_iff.mpr c247
  subst c247
  rw [if_neg (show ¬ (false = true) by decide)] at H
  have H1 := H
  clear H
  have H := H1
  clear H1
  have H' := Aside0.mk H
  clear H
  go_wp2
  refine Met.intro (hJ_ _ _ ?mg_ ?rel)
  case mg_ => kernel_rfl
  case rel => exact ⟨_, H', ⟨by have := HJ17.out; have := HJ148.out; have := HJ224.out; first | omega | exact Nat.le_refl _⟩, ⟨by repeat (first | (with_reducible first | exact HB.out | apply below_alloc | apply pw_below_drewN | apply below_drew1) | exact HB.out)⟩⟩

def laws_FnWaysLead.c14 : PSigma fun P0_ : Prop => Hole P0_ → laws_FnWaysLead.c13.1 := by
 refine' ⟨_, fun HP0_ => _⟩
 rotate_left 1
 intro k A0 c0 l0 A1 c1 l1 r w HR0 HC0 HR1 HC1 A3 t387 t388 A5 t389 t390 A6 t393 t394 A7 t397 t398 A8 t399 t400 A9 t401 t402 A10 t403 t404 A11 t405 t409 t410 A13 t413 t414 A14 t415 t416 A15 t417 t418 A16 t421 t422 A17 _ _ _ w19 w20 v391 w21 v395 w22 _ w23 w24 w25 v407 w26 v411 w27 nd w28 v419 w29 v423 HO392 HO396 HO408 HO412 HO420 HO424 _ _ _ _ _ _ _ kj17 HJ17 _ _ HO_7 _ HO_27 _ kj148 HJ148 _ _ HO_19 HB kj224 HJ224 _ _ J_ K_ hK_ A12 hJ_ HC248 _ _ _ _ f_ wc u409 hcut
 clear HC248
 try clear c1
 try clear c2
 try clear p2
 try clear c3
 try clear c4
 try clear p4
 try clear q4
 try clear hx4
 try clear qi4
 try clear c5
 try clear c6
 try clear p6
 try clear c7
 try clear c8
 try clear c9
 try clear c10
 try clear c11
 try clear c12
 try clear c13
 try clear c14
 try clear c15
 try clear c16
 try clear c17
 try clear c21
 try clear c22
 try clear c23
 try clear c24
 try clear c25
 try clear c30
 try clear c30b0
 try clear c30b1
 try clear c30b2
 try clear c32
 try clear c33
 try clear c33b0
 try clear c33b1
 try clear c33b2
 try clear c36
 try clear c36b0
 try clear c36b1
 try clear c37
 try clear c37b0
 try clear c37b1
 try clear c37b2
 try clear c40
 try clear c40b0
 try clear c40b1
 try clear c41
 try clear c41b0
 try clear c41b1
 try clear c41b2
 try clear p44
 try clear q44
 try clear hx44
 try clear qi44
 try clear c45
 try clear c46
 try clear c46b0
 try clear c46b1
 try clear c46b2
 try clear c51
 try clear c51b0
 try clear c51b1
 try clear c52
 try clear c52b0
 try clear c52b1
 try clear c52b2
 try clear c58
 try clear c59
 try clear c60
 try clear c60b0
 try clear c60b1
 try clear c60b2
 try clear p64
 try clear c67
 try clear c67b0
 try clear c67b1
 try clear c67b2
 try clear c74
 try clear c74b0
 try clear c74b1
 try clear c74b2
 try clear c81
 try clear c81b0
 try clear c81b1
 try clear c81b2
 try clear c94
 try clear c94b0
 try clear c94b1
 try clear c94b2
 try clear c101
 try clear c101b0
 try clear c101b1
 try clear c101b2
 try clear c108
 try clear c108b0
 try clear c108b1
 try clear c108b2
 try clear c115
 try clear c115b0
 try clear c115b1
 try clear c115b2
 try clear c148
 try clear c150
 try clear c155
 try clear c156
 try clear c156b0
 try clear c156b1
 try clear c157
 try clear c157b0
 try clear c157b1
 try clear c157b2
 try clear c162
 try clear c164
 try clear c166
 try clear c166b0
 try clear c166b1
 try clear c167
 try clear c168
 try clear c168b0
 try clear c168b1
 try clear c169
 try clear c170
 try clear c170b0
 try clear c170b1
 try clear c226
 try clear c231
 try clear c232
 try clear c232b0
 try clear c232b1
 try clear c233
 try clear c233b0
 try clear c233b1
 try clear c234
 try clear c235
 try clear c235b0
 try clear c235b1
 try clear c236
 try clear c238
 try clear c238b0
 try clear c239
 try clear c239b0
 try clear c240
 try clear c240b0
 try clear c241
 try clear c241b0
 try clear c242
 try clear c242b0
 try clear c243
 try clear c243b0
 try clear c244
 try clear c244b0
 try clear c244b1
 try clear c245
 try clear c245b0
 try clear c245b1
 try clear c247
 try clear c249
 try clear c249b0
 try clear c249b1
 try clear c250
 try clear c250b0
 try clear c250b1
 try clear c251
 try clear c251b0
 try clear c251b1
 try clear c252
 try clear c252b0
 try clear c253
 try clear c253b0
 try clear hx442_0
 try clear hx443_0
 try clear hx444_0
 try clear hx445_0
 try clear hx446_0
 try clear p2
 try clear p4
 try clear p44
 try clear p442
 try clear p443
 try clear p444
 try clear p445
 try clear p446
 try clear p6
 try clear p64
 try clear q4
 try clear q44
 try clear q442
 try clear q443
 try clear q444
 try clear q445
 try clear q446
 obtain ⟨kq, x409_247, rfl, HA, HJ247, HO_19, HB⟩ := hcut
 cases kq with
 | zero => exact absurd HA.out (by simp [laws_FnWaysLead.j6])
 | succ kj247 =>
  have H := HA.out
  clear HA
  simp only [laws_FnWaysLead.j6] at H
  by_cases c257 : x409_247 = true
  ·subst c257
   rw [if_pos rfl] at H
   have H1 := H
   clear H
   have H := H1
   clear H1
   obtain rfl := Option.some.inj H
   go_wp2
   go_ret
   exact ⟨by first | rfl | (simp [errW_none, errW_some] <;> rfl) | (simp [*, errW_none, errW_some] <;> rfl), by repeat (first | (with_reducible first | exact HB.out | apply below_alloc | apply pw_below_drewN | apply below_drew1) | exact HB.out)⟩
  ·replace c257 := Bool.eq_false_iff.mpr c257
   subst c257
   rw [if_neg (show ¬ (false = true) by decide)] at H
   have H1 := H
   clear H
   have H := H1
   clear H1
   have H' := Aside0.mk H
   clear H
   go_wp2
   go_loopg [46] kj247 (fun kq v46 w' => ∃ (x46_5 : Int), v46 = .int .i64 x46_5 ∧ Aside0 (laws_FnWaysLead.l2 kq l1 t405 x46_5 = some r) ∧ Aside0 (kq ≤ kj247) ∧ Aside0 (Kd.R Kd.string 9 w' w.heap.size (fun _ => True) v407 t405) ∧ Aside0 (Below w.heap.size w w'))
   case atStart => exact ⟨(1), (by first | rfl | (simp; done) | (simp [*]; done)), H', ⟨Nat.le_refl _⟩, ⟨by (with_reducible repeat (first | apply Kd.R_alloc | apply Kd.R_drewN | apply Kd.R_drew)); exact HO_19.out⟩, ⟨by repeat (first | (with_reducible first | exact HB.out | apply below_alloc | apply pw_below_drewN | apply below_drew1) | exact HB.out)⟩⟩
   case round =>
    repeat revert ‹_›
    intro HP0_
    exact HP0_.out

def laws_FnWaysLead.c15 : PSigma fun P0_ : Prop => Hole P0_ → laws_FnWaysLead.c14.1 := by
 refine' ⟨_, fun HP0_ => _⟩
 rotate_left 1
 intro k A0 c0 l0 A1 c1 l1 r w HR0 HC0 HR1 HC1 A3 t387 t388 A5 t389 t390 A6 t393 t394 A7 t397 t398 A8 t399 t400 A9 t401 t402 A10 t403 t404 A11 t405 t409 t410 A13 t413 t414 A14 t415 t416 A15 t417 t418 A16 t421 t422 A17 _ _ _ w19 w20 v391 w21 v395 w22 _ w23 w24 w25 v407 w26 v411 w27 nd w28 v419 w29 v423 HO392 HO396 HO408 HO412 HO420 HO424 _ _ _ _ _ _ _ kj17 HJ17 _ _ HO_7 _ HO_27 _ kj148 HJ148 _ _ _ _ kj224 HJ224 _ _ J_ K_ hK_ A12 hJ_ f_ wc HO_19 HB kj247 HJ247 H' gk wr u4 u46 u47 u48 u410 u411 u412 u413 u414 u415 u416 u417 u418 u419 u420 u421 u422 u423 u424 u425 u426 u427 u428 u429 u430 u431 u432 u433 u434 u435 u436 u437 u438 hrel _ _ _ _
 clear H'
 try clear c1
 try clear c2
 try clear p2
 try clear c3
 try clear c4
 try clear p4
 try clear q4
 try clear hx4
 try clear qi4
 try clear c5
 try clear c6
 try clear p6
 try clear c7
 try clear c8
 try clear c9
 try clear c10
 try clear c11
 try clear c12
 try clear c13
 try clear c14
 try clear c15
 try clear c16
 try clear c17
 try clear c21
 try clear c22
 try clear c23
 try clear c24
 try clear c25
 try clear c30
 try clear c30b0
 try clear c30b1
 try clear c30b2
 try clear c32
 try clear c33
 try clear c33b0
 try clear c33b1
 try clear c33b2
 try clear c36
 try clear c36b0
 try clear c36b1
 try clear c37
 try clear c37b0
 try clear c37b1
 try clear c37b2
 try clear c40
 try clear c40b0
 try clear c40b1
 try clear c41
 try clear c41b0
 try clear c41b1
 try clear c41b2
 try clear p44
 try clear q44
 try clear hx44
 try clear qi44
 try clear c45
 try clear c46
 try clear c46b0
 try clear c46b1
 try clear c46b2
 try clear c51
 try clear c51b0
 try clear c51b1
 try clear c52
 try clear c52b0
 try clear c52b1
 try clear c52b2
 try clear c58
 try clear c59
 try clear c60
 try clear c60b0
 try clear c60b1
 try clear c60b2
 try clear p64
 try clear c67
 try clear c67b0
 try clear c67b1
 try clear c67b2
 try clear c74
 try clear c74b0
 try clear c74b1
 try clear c74b2
 try clear c81
 try clear c81b0
 try clear c81b1
 try clear c81b2
 try clear c94
 try clear c94b0
 try clear c94b1
 try clear c94b2
 try clear c101
 try clear c101b0
 try clear c101b1
 try clear c101b2
 try clear c108
 try clear c108b0
 try clear c108b1
 try clear c108b2
 try clear c115
 try clear c115b0
 try clear c115b1
 try clear c115b2
 try clear c148
 try clear c150
 try clear c155
 try clear c156
 try clear c156b0
 try clear c156b1
 try clear c157
 try clear c157b0
 try clear c157b1
 try clear c157b2
 try clear c162
 try clear c164
 try clear c166
 try clear c166b0
 try clear c166b1
 try clear c167
 try clear c168
 try clear c168b0
 try clear c168b1
 try clear c169
 try clear c170
 try clear c170b0
 try clear c170b1
 try clear c226
 try clear c231
 try clear c232
 try clear c232b0
 try clear c232b1
 try clear c233
 try clear c233b0
 try clear c233b1
 try clear c234
 try clear c235
 try clear c235b0
 try clear c235b1
 try clear c236
 try clear c238
 try clear c238b0
 try clear c239
 try clear c239b0
 try clear c240
 try clear c240b0
 try clear c241
 try clear c241b0
 try clear c242
 try clear c242b0
 try clear c243
 try clear c243b0
 try clear c244
 try clear c244b0
 try clear c244b1
 try clear c245
 try clear c245b0
 try clear c245b1
 try clear c247
 try clear c249
 try clear c249b0
 try clear c249b1
 try clear c250
 try clear c250b0
 try clear c250b1
 try clear c251
 try clear c251b0
 try clear c251b1
 try clear c252
 try clear c252b0
 try clear c253
 try clear c253b0
 try clear c257
 try clear hx442_0
 try clear hx443_0
 try clear hx444_0
 try clear hx445_0
 try clear hx446_0
 try clear p2
 try clear p4
 try clear p44
 try clear p442
 try clear p443
 try clear p444
 try clear p445
 try clear p446
 try clear p6
 try clear p64
 try clear q4
 try clear q44
 try clear q442
 try clear q443
 try clear q444
 try clear q445
 try clear q446
 obtain ⟨x46_5, rfl, HA, HK5, HO_19, HB⟩ := hrel
 cases gk with
 | zero => exact absurd HA.out (by simp [laws_FnWaysLead.l2])
 | succ k5 =>
  have H := HA.out
  clear HA
  simp only [laws_FnWaysLead.l2] at H
  have HC258 := Aside0.mk H
  clear H
  go_upto_region 46 with (fail)
  refine wp_cutF [o_,o_,o_,o_,o_,o_,o_,o_,o_,o_,o_,o_,o_,o_,o_,o_,o_,o_,o_,o_,o_,o_,o_,o_,o_,o_,o_,o_,o_,o_,o_,o_,o_,o_,o_,o_,o_,o_,o_,o_,o_,o_,o_,o_,o_,o_,o_,o_,o_,o_,o_,o_,o_,o_,o_,o_,o_,o_,o_,o_,o_,o_,o_,o_,o_,o_,o_,o_,o_,o_,o_,o_,o_,o_,o_,o_,o_,o_,o_,o_,o_,o_,o_,o_,o_,o_,o_,o_,o_,o_,o_,o_,o_,o_,o_,o_,o_,o_,o_,o_,o_,o_,o_,o_,o_,o_,o_,o_,o_,o_,o_,o_,o_,o_,o_,o_,o_,o_,o_,o_,o_,o_,o_,o_,o_,o_,o_,o_,o_,o_,o_,o_,o_,o_,o_,o_,o_,o_,o_,o_,o_,o_,o_,o_,o_,o_,o_,o_,o_,o_,o_,o_,o_,o_,o_,o_,o_,o_,o_,o_,o_,o_,o_,o_,o_,o_,o_,o_,o_,o_,o_,o_,o_,o_,o_,o_,o_,o_,o_,o_,o_,o_,o_,o_,o_,o_,o_,o_,o_,o_,o_,o_,o_,o_,o_,o_,o_,o_,o_,o_,o_,o_,o_,o_,o_,o_,o_,o_,o_,o_,o_,o_,o_,o_,o_,o_,o_,o_,o_,o_,o_,o_,o_,o_,o_,o_,o_,o_,o_,o_,o_,o_,o_,o_,o_,o_,o_,o_,o_,o_,o_,o_,o_,o_,o_,o_,o_,o_,o_,o_,o_,o_,o_,o_,o_,o_,o_,o_,o_,o_,o_,o_,o_,o_,o_,o_,o_,o_,o_,o_,o_,o_,o_,o_,o_,o_,o_,o_,o_,o_,o_,o_,o_,o_,o_,o_,o_,o_,o_,o_,o_,o_,o_,o_,o_,o_,o_,o_,o_,o_,o_,o_,o_,o_,o_,o_,o_,o_,o_,o_,o_,o_,o_,o_,o_,o_,o_,o_,o_,o_,o_,o_,o_,o_,o_,o_,o_,o_,o_,o_,o_,o_,o_,o_,o_,o_,o_,o_,o_,o_,o_,o_,o_,o_,o_,o_,o_,o_,o_,o_,o_,o_,o_,o_,o_,o_,o_,o_,o_,o_,o_,o_,o_,o_,o_,o_,o_,o_,o_,o_,o_,o_,o_,o_,o_,o_,o_,o_,o_,o_,o_,o_,o_,o_,o_,o_,o_,o_,o_,o_,o_,o_,o_,o_,o_,o_,o_,o_,o_,o_,o_,o_,o_,o_,o_,o_,o_,o_,o_,o_,i_,i_,i_,i_,i_,i_,i_,i_,i_,i_,i_,i_,i_,i_,i_,i_,i_,i_,i_,i_,i_,i_,i_,i_,i_,i_,i_,i_,i_] (fun f_ wc => ∃ (kq : Nat) (x417_257 : Bool), (f_ 417) = .bool x417_257 ∧ Aside0 (laws_FnWaysLead.j8 kq l1 t405 x46_5 x417_257 = some r) ∧ Aside0 (kq ≤ k5) ∧ Aside0 (Kd.R Kd.string 9 wc w.heap.size (fun _ => True) v407 t405) ∧ Aside0 (Below w.heap.size w wc)) ?rest ?first
  case first =>
   intro J_ K_ hJ_ hK_
   have H := HC258.out
   clear HC258
   by_cases c259 : x46_5 < (t405.length : Int)
   ·rw [if_pos c259] at H
    have c259b0 : decide (x46_5 < (t405.length : Int)) = true := decide_eq_true c259
    clear c259
    (first | rw [c259b0] | (simp only [i64_w, i32_w]; rw [c259b0]) | skip)
    have H' := Aside0.mk H
    clear H
    obtain ⟨Ao260, co260, eo260⟩ := Kd.R_slice HO_19.out
    subst eo260
    go_wp2
    refine Met.intro (hJ_ _ _ ?mg_ ?rel)
    case mg_ => kernel_rfl
    case rel => exact ⟨_, (decide (x46_5 < 100)), (by first | rfl | ((conv => lhs; whnf); first | rfl | (simp; done) | (simp [*]; done))), H', ⟨by have := HJ17.out; have := HJ148.out; have := HJ224.out; have := HJ247.out; have := HK5.out; first | omega | exact Nat.le_refl _⟩, ⟨by (with_reducible repeat (first | apply Kd.R_alloc | apply Kd.R_drewN | apply Kd.R_drew)); exact HO_19.out⟩, ⟨by repeat (first | (with_reducible first | exact HB.out | apply below_alloc | apply pw_below_drewN | apply below_drew1) | exact HB.out)⟩⟩
   ·rw [if_neg c259] at H
    have c259b0 : decide (x46_5 < (t405.length : Int)) = false := decide_eq_false c259
    clear c259
    (first | rw [c259b0] | (simp only [i64_w, i32_w]; rw [c259b0]) | skip)
    have H' := Aside0.mk H
    clear H
    obtain ⟨Ao261, co261, eo261⟩ := Kd.R_slice HO_19.out
    subst eo261
    go_wp2
    refine Met.intro (hJ_ _ _ ?mg_ ?rel)
    case mg_ => kernel_rfl
    case rel => exact ⟨_, (false), (by first | rfl | ((conv => lhs; whnf); first | rfl | (simp; done) | (simp [*]; done))), H', ⟨by have := HJ17.out; have := HJ148.out; have := HJ224.out; have := HJ247.out; have := HK5.out; first | omega | exact Nat.le_refl _⟩, ⟨by (with_reducible repeat (first | apply Kd.R_alloc | apply Kd.R_drewN | apply Kd.R_drew)); exact HO_19.out⟩, ⟨by repeat (first | (with_reducible first | exact HB.out | apply below_alloc | apply pw_below_drewN | apply below_drew1) | exact HB.out)⟩⟩
  case rest =>
   intro f_ wc hcut
   dsimp only [maskF] at hcut ⊢
   generalize f_ 417 = u417 at hcut ⊢
   repeat revert ‹_›
   intro HP0_
   exact HP0_.out

theorem laws_FnWaysLead.c16 : laws_FnWaysLead.c15.1 := by
 intro k A0 c0 l0 A1 c1 l1 r w HR0 HC0 HR1 HC1 A3 t387 t388 A5 t389 t390 A6 t393 t394 A7 t397 t398 A8 t399 t400 A9 t401 t402 A10 t403 t404 A11 t405 t409 t410 A13 t413 t414 A14 t415 t416 A15 t417 t418 A16 t421 t422 A17 _ _ _ w19 w20 v391 w21 v395 w22 _ w23 w24 w25 v407 w26 v411 w27 nd w28 v419 w29 v423 HO392 HO396 HO408 HO412 HO420 HO424 _ _ _ _ _ _ _ kj17 HJ17 _ _ HO_7 _ HO_27 _ kj148 HJ148 _ _ _ _ kj224 HJ224 _ _ J_ K_ hK_ A12 hJ_ _ _ _ _ kj247 HJ247 wr u4 u47 u48 u410 u411 u412 u413 u414 u415 u416 _ u418 u419 u420 u421 u422 u423 u424 u425 u426 u427 u428 u429 u430 u431 u432 u433 u434 u435 u436 u437 u438 _ _ _ x46_5 HO_19 HB k5 _ HK5 HC258 _ _ _ _ f_ wc u417 hcut
 clear HC258
 try clear c1
 try clear c2
 try clear p2
 try clear c3
 try clear c4
 try clear p4
 try clear q4
 try clear hx4
 try clear qi4
 try clear c5
 try clear c6
 try clear p6
 try clear c7
 try clear c8
 try clear c9
 try clear c10
 try clear c11
 try clear c12
 try clear c13
 try clear c14
 try clear c15
 try clear c16
 try clear c17
 try clear c21
 try clear c22
 try clear c23
 try clear c24
 try clear c25
 try clear c30
 try clear c30b0
 try clear c30b1
 try clear c30b2
 try clear c32
 try clear c33
 try clear c33b0
 try clear c33b1
 try clear c33b2
 try clear c36
 try clear c36b0
 try clear c36b1
 try clear c37
 try clear c37b0
 try clear c37b1
 try clear c37b2
 try clear c40
 try clear c40b0
 try clear c40b1
 try clear c41
 try clear c41b0
 try clear c41b1
 try clear c41b2
 try clear p44
 try clear q44
 try clear hx44
 try clear qi44
 try clear c45
 try clear c46
 try clear c46b0
 try clear c46b1
 try clear c46b2
 try clear c51
 try clear c51b0
 try clear c51b1
 try clear c52
 try clear c52b0
 try clear c52b1
 try clear c52b2
 try clear c58
 try clear c59
 try clear c60
 try clear c60b0
 try clear c60b1
 try clear c60b2
 try clear p64
 try clear c67
 try clear c67b0
 try clear c67b1
 try clear c67b2
 try clear c74
 try clear c74b0
 try clear c74b1
 try clear c74b2
 try clear c81
 try clear c81b0
 try clear c81b1
 try clear c81b2
 try clear c94
 try clear c94b0
 try clear c94b1
 try clear c94b2
 try clear c101
 try clear c101b0
 try clear c101b1
 try clear c101b2
 try clear c108
 try clear c108b0
 try clear c108b1
 try clear c108b2
 try clear c115
 try clear c115b0
 try clear c115b1
 try clear c115b2
 try clear c148
 try clear c150
 try clear c155
 try clear c156
 try clear c156b0
 try clear c156b1
 try clear c157
 try clear c157b0
 try clear c157b1
 try clear c157b2
 try clear c162
 try clear c164
 try clear c166
 try clear c166b0
 try clear c166b1
 try clear c167
 try clear c168
 try clear c168b0
 try clear c168b1
 try clear c169
 try clear c170
 try clear c170b0
 try clear c170b1
 try clear c226
 try clear c231
 try clear c232
 try clear c232b0
 try clear c232b1
 try clear c233
 try clear c233b0
 try clear c233b1
 try clear c234
 try clear c235
 try clear c235b0
 try clear c235b1
 try clear c236
 try clear c238
 try clear c238b0
 try clear c239
 try clear c239b0
 try clear c240
 try clear c240b0
 try clear c241
 try clear c241b0
 try clear c242
 try clear c242b0
 try clear c243
 try clear c243b0
 try clear c244
 try clear c244b0
 try clear c244b1
 try clear c245
 try clear c245b0
 try clear c245b1
 try clear c247
 try clear c249
 try clear c249b0
 try clear c249b1
 try clear c250
 try clear c250b0
 try clear c250b1
 try clear c251
 try clear c251b0
 try clear c251b1
 try clear c252
 try clear c252b0
 try clear c253
 try clear c253b0
 try clear c257
 try clear c259
 try clear c259b0
 try clear hx442_0
 try clear hx443_0
 try clear hx444_0
 try clear hx445_0
 try clear hx446_0
 try clear p2
 try clear p4
 try clear p44
 try clear p442
 try clear p443
 try clear p444
 try clear p445
 try clear p446
 try clear p6
 try clear p64
 try clear q4
 try clear q44
 try clear q442
 try clear q443
 try clear q444
 try clear q445
 try clear q446
 obtain ⟨kq, x417_257, rfl, HA, HJ257, HO_19, HB⟩ := hcut
 cases kq with
 | zero => exact absurd HA.out (by simp [laws_FnWaysLead.j8])
 | succ kj257 =>
  have H := HA.out
  clear HA
  simp only [laws_FnWaysLead.j8] at H
  by_cases c262 : x417_257 = true
  ·subst c262
   rw [if_pos rfl] at H
   have H1 := H
   clear H
   have H := H1
   clear H1
   obtain ⟨ji263, hji263⟩ : ∃ j_ : Int, (wrap64 (x46_5 - 1)) = j_ := ⟨_, rfl⟩
   replace H : (if 0 ≤ (ji263) then (if (ji263) < (t405.length : Int) then (if 0 ≤ x46_5 then (if x46_5 < (t405.length : Int) then ((impl_FewestMoves.f kj257 (rdOf ByteArray.empty t405 (ji263)) (rdOf ByteArray.empty t405 x46_5)).bind fun bt449 => (if bt449.2 = true then (if bt449.1 = 1 then (laws_FnWaysLead.l2 kj257 l1 t405 (wrap64 (x46_5 + 1))) else (some false)) else (some false))) else (none)) else (none)) else (none)) else (none)) = some r := by first | (rw [hji263] at H; exact H) | (simp only [hji263] at H ⊢; exact H)
   have hji263w : (IntKind.i64.wrap (x46_5 - 1)) = ji263 := (i64_w _).trans hji263
   by_cases c264 : 0 ≤ (ji263)
   ·rw [if_pos c264] at H
    have c264b0 : decide (0 ≤ (ji263)) = true := decide_eq_true c264
    clear c264
    by_cases c265 : (ji263) < (t405.length : Int)
    ·rw [if_pos c265] at H
     have c265b0 : decide ((ji263) < (t405.length : Int)) = true := decide_eq_true c265
     clear c265
     by_cases c266 : 0 ≤ x46_5
     ·rw [if_pos c266] at H
      have c266b0 : decide (0 ≤ x46_5) = true := decide_eq_true c266
      clear c266
      by_cases c267 : x46_5 < (t405.length : Int)
      ·rw [if_pos c267] at H
       have c267b0 : decide (x46_5 < (t405.length : Int)) = true := decide_eq_true c267
       clear c267
       replace H := Option.bind_eq_some_iff.mp H
       obtain ⟨⟨t449, t450⟩, A2680, H⟩ := H
       try dsimp +instances only at H
       replace H := H
       have A268 := Aside0.mk A2680
       clear A2680
       by_cases c269 : t450 = true
       ·subst c269
        rw [if_pos rfl] at H
        have H1 := H
        clear H
        have H := H1
        clear H1
        by_cases c270 : t449 = 1
        ·rw [if_pos c270] at H
         have c270b0 : (t449 == 1) = true := beq_iff_eq.mpr c270
         have c270b1 : (t449 != 1) = false := bne_eq_false_iff_eq.mpr c270
         clear c270
         have H' := Aside0.mk H
         clear H
         try go_wp2
         have n0_ := Aside0.mk (Kd.R_drew HO_19.out)
         have n1_ := Aside0.mk (below_drew1 HB.out)
         clear HO_19
         clear HB
         have HO_19 := n0_
         have HB := n1_
         clear n0_ n1_
         obtain ⟨Ao272, co272, eo272⟩ := Kd.R_slice HO_19.out
         (first | subst eo272 | (injection eo272 with f1_ f2_ f3_; have f4_ := f1_.symm; have f5_ := f3_.symm; clear f1_ f2_ f3_; subst f4_; subst f5_))
         have p447 : 0 ≤ ((ji263) : Int) := of_decide_eq_true (by first | (with_reducible assumption) | assumption)
         have q447 : (ji263) < (t405.length : Int) := of_decide_eq_true (by first | (with_reducible assumption) | assumption)
         obtain ⟨ad447, e447, hx447_0⟩ := Kd.at_string (Kd.R_reads' HO_19.out).2.2 (ji263) p447 q447
         cases e447
         replace p447 := eq_true p447
         replace q447 := eq_true q447
         have p448 : 0 ≤ (x46_5 : Int) := of_decide_eq_true (by first | (with_reducible assumption) | assumption)
         have q448 : x46_5 < (t405.length : Int) := of_decide_eq_true (by first | (with_reducible assumption) | assumption)
         obtain ⟨ad448, e448, hx448_0⟩ := Kd.at_string (Kd.R_reads' HO_19.out).2.2 x46_5 p448 q448
         obtain rfl : ad447 = ad448 := (by injection e448)
         replace p448 := eq_true p448
         replace q448 := eq_true q448
         refine start_ (n := 15) (S := fun w' => w'.cell? (ad447.add ((ji263)).toNat) = some (.string (rdOf ByteArray.empty t405 (ji263))) ∧ w'.cell? (ad447.add (x46_5).toNat) = some (.string (rdOf ByteArray.empty t405 x46_5))) (ds := []) #[false, false, false, false, false, false, false, false, false, false, false, false, false, false, false] (by kernel_rfl) rfl rfl ⟨hx447_0, hx448_0⟩ (fun hHeld => ?_); refine with_tabW laws_FnWaysLead.tab48 laws_FnWaysLead.bits48 (fun HT_ HW_ => ?_)
         generalize wc.drew = w271 at HO_19 HB hx447_0 hx448_0 hHeld ⊢
         refine pure_ (i := 0) (N := some 421) (v := ?_) (a' := ?_) #[true, false, false, false, false, false, false, false, false, false, false, false, false, false, false] rfl rfl (any_of HT_.out (by kernel_rfl)) (fun _ _ _ h => h) (Or.inl ⟨by rfl, ?_⟩) ?_ ?_
         rotate_left
         ·intro w'
          go_simp
          with_reducible rfl
         rotate_left
         ·simp only [Act.put, List.setIfInBounds_toArray, List.set_cons_zero, List.set_cons_succ, i64_w, i32_w]
          rfl
         refine pure_ (i := 1) (N := some 422) (v := ?_) (a' := ?_) #[true, true, false, false, false, false, false, false, false, false, false, false, false, false, false] rfl rfl (any_of HT_.out (by kernel_rfl)) (fun _ _ _ h => h) (Or.inl ⟨by rfl, ?_⟩) ?_ ?_
         rotate_left
         ·intro w'
          go_simp
          with_reducible rfl
         rotate_left
         ·simp only [Act.put, List.setIfInBounds_toArray, List.set_cons_zero, List.set_cons_succ, i64_w, i32_w]
          rfl
         refine pure_ (i := 2) (N := some 423) (v := ?_) (a' := ?_) #[true, true, true, false, false, false, false, false, false, false, false, false, false, false, false] rfl rfl (any_of HT_.out (by kernel_rfl)) (fun _ _ _ h => h) (Or.inl ⟨by rfl, ?_⟩) ?_ ?_
         rotate_left
         ·intro w'
          go_simp
          with_reducible rfl
         rotate_left
         ·simp only [Act.put, List.setIfInBounds_toArray, List.set_cons_zero, List.set_cons_succ, i64_w, i32_w]
          rfl
         refine pure_ (i := 3) (N := some 424) (v := ?_) (a' := ?_) #[true, true, true, true, false, false, false, false, false, false, false, false, false, false, false] rfl rfl (any_of HT_.out (by kernel_rfl)) (fun _ _ _ h => h) (Or.inl ⟨by rfl, ?_⟩) ?_ ?_
         rotate_left
         ·intro w'
          go_simp
          with_reducible rfl
         rotate_left
         ·simp only [Act.put, List.setIfInBounds_toArray, List.set_cons_zero, List.set_cons_succ, i64_w, i32_w]
          rfl
         refine pure_ (i := 5) (N := some 426) (v := ?_) (a' := ?_) #[true, true, true, true, false, true, false, false, false, false, false, false, false, false, false] rfl rfl (any_of HT_.out (by kernel_rfl)) (fun _ _ _ h => h) (Or.inl ⟨by rfl, ?_⟩) ?_ ?_
         rotate_left
         ·intro w'
          go_simp
          with_reducible rfl
         rotate_left
         ·simp only [Act.put, List.setIfInBounds_toArray, List.set_cons_zero, List.set_cons_succ, i64_w, i32_w]
          rfl
         refine pure_ (i := 6) (N := some 427) (v := ?_) (a' := ?_) #[true, true, true, true, false, true, true, false, false, false, false, false, false, false, false] rfl rfl (any_of HT_.out (by kernel_rfl)) (fun _ _ _ h => h) (Or.inl ⟨by rfl, ?_⟩) ?_ ?_
         rotate_left
         ·intro w'
          go_simp
          with_reducible rfl
         rotate_left
         ·simp only [Act.put, List.setIfInBounds_toArray, List.set_cons_zero, List.set_cons_succ, i64_w, i32_w]
          rfl
         refine pure_ (i := 7) (N := some 428) (v := ?_) (a' := ?_) #[true, true, true, true, false, true, true, true, false, false, false, false, false, false, false] rfl rfl (any_of HT_.out (by kernel_rfl)) (fun _ _ _ h => h) (Or.inl ⟨by rfl, ?_⟩) ?_ ?_
         rotate_left
         ·intro w'
          go_simp
          with_reducible rfl
         rotate_left
         ·simp only [Act.put, List.setIfInBounds_toArray, List.set_cons_zero, List.set_cons_succ, i64_w, i32_w]
          rfl
         refine take_ (i := 4) (N := some 425) (v := ?_) (a' := ?_) #[true, true, true, true, true, true, true, true, false, false, false, false, false, false, false] rfl rfl (take_ofW HT_.out HW_.out (by kernel_rfl)) (fun _ _ _ h => h) (Or.inl ⟨by rfl, ?_⟩) hHeld ?_ ?_
         rotate_left
         ·rintro w' ⟨s0, s1⟩
          go_simp
          with_reducible rfl
         rotate_left
         ·simp only [Act.put, List.setIfInBounds_toArray, List.set_cons_zero, List.set_cons_succ, i64_w, i32_w]
          rfl
         refine take_ (i := 8) (N := some 429) (v := ?_) (a' := ?_) #[true, true, true, true, true, true, true, true, true, false, false, false, false, false, false] rfl rfl (take_ofW HT_.out HW_.out (by kernel_rfl)) (fun _ _ _ h => h) (Or.inl ⟨by rfl, ?_⟩) hHeld ?_ ?_
         rotate_left
         ·rintro w' ⟨s0, s1⟩
          go_simp
          with_reducible rfl
         rotate_left
         ·simp only [Act.put, List.setIfInBounds_toArray, List.set_cons_zero, List.set_cons_succ, i64_w, i32_w]
          rfl
         refine one_ (i := 9) (N := some 430) #[true, true, true, true, true, true, true, true, true, true, false, false, false, false, false] rfl rfl (one_of HT_.out (by kernel_rfl)) (by decide) (fun K hK => ?_)
         refine goes_ Tryz.func8 (by kernel_rfl) rfl #[.string (rdOf ByteArray.empty t405 (ji263)), .string (rdOf ByteArray.empty t405 x46_5)] (by rfl) rfl rfl (by (try simp only [List.map_toArray, List.map_cons, List.map_nil]); first | done | (simp only [hji263]; rfl) | rfl | (simp only [List.length_drop, List.length_take]; rfl)) ?_
         with_reducible refine (impl_FewestMoves.calls kj257 (rdOf ByteArray.empty t405 (ji263)) (rdOf ByteArray.empty t405 x46_5) t449 true _ A268.out).mono ?_
         rintro e w273 ⟨rfl, hb⟩
         have HS0_ := (hb.cell (World.block_lt_of_cell? _ _ (hHeld.1))).trans (hHeld.1)
         have HS1_ := (hb.cell (World.block_lt_of_cell? _ _ (hHeld.2))).trans (hHeld.2)
         refine ⟨_, rfl, ?_⟩
         have n0_ := Aside0.mk (Kd.R_below (by (with_reducible repeat (first | apply Kd.R_alloc | apply Kd.R_drewN | apply Kd.R_drew)); exact HO_19.out) hb)
         have n1_ := Aside0.mk (below_step (by repeat (first | (with_reducible first | exact HB.out | apply below_alloc | apply pw_below_drewN | apply below_drew1) | exact HB.out)) hb)
         clear HO_19
         clear HB
         have HO_19 := n0_
         have HB := n1_
         clear n0_ n1_
         (try clear hb)
         (try clear hb2)
         (try clear hk)
         (try clear hi)
         refine hK.out _ _ ⟨HS0_, HS1_⟩ (fun hHeld => ?_)
         clear hK K
         refine norm_ (a' := ?_) ?_ ?_
         rotate_left
         ·show Act.put _ (some 430) _ = _
          simp only [Act.put, List.setIfInBounds_toArray, List.set_cons_zero, List.set_cons_succ, i64_w, i32_w]
          rfl
         refine pure_ (i := 10) (N := some 420) (v := ?_) (a' := ?_) #[true, true, true, true, true, true, true, true, true, true, true, false, false, false, false] rfl rfl (any_of HT_.out (by kernel_rfl)) (fun _ _ _ h => h) (Or.inl ⟨by rfl, ?_⟩) ?_ ?_
         rotate_left
         ·intro w'
          go_simp
          with_reducible rfl
         rotate_left
         ·simp only [Act.put, List.setIfInBounds_toArray, List.set_cons_zero, List.set_cons_succ, i64_w, i32_w]
          rfl
         refine pure_ (i := 11) (N := some 431) (v := ?_) (a' := ?_) #[true, true, true, true, true, true, true, true, true, true, true, true, false, false, false] rfl rfl (any_of HT_.out (by kernel_rfl)) (fun _ _ _ h => h) (Or.inl ⟨by rfl, ?_⟩) ?_ ?_
         rotate_left
         ·intro w'
          go_simp
          with_reducible rfl
         rotate_left
         ·simp only [Act.put, List.setIfInBounds_toArray, List.set_cons_zero, List.set_cons_succ, i64_w, i32_w]
          rfl
         refine pure_ (i := 12) (N := some 432) (v := ?_) (a' := ?_) #[true, true, true, true, true, true, true, true, true, true, true, true, true, false, false] rfl rfl (any_of HT_.out (by kernel_rfl)) (fun _ _ _ h => h) (Or.inl ⟨by rfl, ?_⟩) ?_ ?_
         rotate_left
         ·intro w'
          go_simp
          with_reducible rfl
         rotate_left
         ·simp only [Act.put, List.setIfInBounds_toArray, List.set_cons_zero, List.set_cons_succ, i64_w, i32_w]
          rfl
         refine pure_ (i := 13) (N := some 47) (v := ?_) (a' := ?_) #[true, true, true, true, true, true, true, true, true, true, true, true, true, true, false] rfl rfl (any_of HT_.out (by kernel_rfl)) (fun _ _ _ h => h) (Or.inl ⟨by rfl, ?_⟩) ?_ ?_
         rotate_left
         ·intro w'
          go_simp
          with_reducible rfl
         rotate_left
         ·simp only [Act.put, List.setIfInBounds_toArray, List.set_cons_zero, List.set_cons_succ, i64_w, i32_w]
          rfl
         refine pure_ (i := 14) (N := some 48) (v := ?_) (a' := ?_) #[true, true, true, true, true, true, true, true, true, true, true, true, true, true, true] rfl rfl (any_of HT_.out (by kernel_rfl)) (fun _ _ _ h => h) (Or.inl ⟨by rfl, ?_⟩) ?_ ?_
         rotate_left
         ·intro w'
          go_simp
          with_reducible rfl
         rotate_left
         ·simp only [Act.put, List.setIfInBounds_toArray, List.set_cons_zero, List.set_cons_succ, i64_w, i32_w]
          rfl
         refine done_ (done_of HT_.out (by kernel_rfl)) ?_
         try go_wp2
         go_roundg kj257
         case measure => have := HJ17.out; have := HJ148.out; have := HJ224.out; have := HJ247.out; have := HK5.out; have := HJ257.out; omega
         case rel => exact ⟨(wrap64 (x46_5 + 1)), (by first | rfl | ((conv => lhs; whnf); first | rfl | (simp; done) | (simp [*]; done))), H', ⟨by have := HJ17.out; have := HJ148.out; have := HJ224.out; have := HJ247.out; have := HK5.out; have := HJ257.out; omega⟩, ⟨by (with_reducible repeat (first | apply Kd.R_alloc | apply Kd.R_drewN | apply Kd.R_drew)); exact HO_19.out⟩, ⟨by repeat (first | (with_reducible first | exact HB.out | apply below_alloc | apply pw_below_drewN | apply below_drew1) | exact HB.out)⟩⟩
        ·rw [if_neg c270] at H
         have c270b0 : (t449 == 1) = false := beq_eq_false_iff_ne.mpr c270
         have c270b1 : (t449 != 1) = true := bne_iff_ne.mpr c270
         obtain rfl := Option.some.inj H
         try go_wp2
         have n0_ := Aside0.mk (Kd.R_drew HO_19.out)
         have n1_ := Aside0.mk (below_drew1 HB.out)
         clear HO_19
         clear HB
         have HO_19 := n0_
         have HB := n1_
         clear n0_ n1_
         obtain ⟨Ao275, co275, eo275⟩ := Kd.R_slice HO_19.out
         (first | subst eo275 | (injection eo275 with f1_ f2_ f3_; have f4_ := f1_.symm; have f5_ := f3_.symm; clear f1_ f2_ f3_; subst f4_; subst f5_))
         have p447 : 0 ≤ ((ji263) : Int) := of_decide_eq_true (by first | (with_reducible assumption) | assumption)
         have q447 : (ji263) < (t405.length : Int) := of_decide_eq_true (by first | (with_reducible assumption) | assumption)
         obtain ⟨ad447, e447, hx447_0⟩ := Kd.at_string (Kd.R_reads' HO_19.out).2.2 (ji263) p447 q447
         cases e447
         replace p447 := eq_true p447
         replace q447 := eq_true q447
         have p448 : 0 ≤ (x46_5 : Int) := of_decide_eq_true (by first | (with_reducible assumption) | assumption)
         have q448 : x46_5 < (t405.length : Int) := of_decide_eq_true (by first | (with_reducible assumption) | assumption)
         obtain ⟨ad448, e448, hx448_0⟩ := Kd.at_string (Kd.R_reads' HO_19.out).2.2 x46_5 p448 q448
         obtain rfl : ad447 = ad448 := (by injection e448)
         replace p448 := eq_true p448
         replace q448 := eq_true q448
         refine start_ (n := 15) (S := fun w' => w'.cell? (ad447.add ((ji263)).toNat) = some (.string (rdOf ByteArray.empty t405 (ji263))) ∧ w'.cell? (ad447.add (x46_5).toNat) = some (.string (rdOf ByteArray.empty t405 x46_5))) (ds := []) #[false, false, false, false, false, false, false, false, false, false, false, false, false, false, false] (by kernel_rfl) rfl rfl ⟨hx447_0, hx448_0⟩ (fun hHeld => ?_); refine with_tabW laws_FnWaysLead.tab48 laws_FnWaysLead.bits48 (fun HT_ HW_ => ?_)
         generalize wc.drew = w274 at HO_19 HB hx447_0 hx448_0 hHeld ⊢
         refine pure_ (i := 0) (N := some 421) (v := ?_) (a' := ?_) #[true, false, false, false, false, false, false, false, false, false, false, false, false, false, false] rfl rfl (any_of HT_.out (by kernel_rfl)) (fun _ _ _ h => h) (Or.inl ⟨by rfl, ?_⟩) ?_ ?_
         rotate_left
         ·intro w'
          go_simp
          with_reducible rfl
         rotate_left
         ·simp only [Act.put, List.setIfInBounds_toArray, List.set_cons_zero, List.set_cons_succ, i64_w, i32_w]
          rfl
         refine pure_ (i := 1) (N := some 422) (v := ?_) (a' := ?_) #[true, true, false, false, false, false, false, false, false, false, false, false, false, false, false] rfl rfl (any_of HT_.out (by kernel_rfl)) (fun _ _ _ h => h) (Or.inl ⟨by rfl, ?_⟩) ?_ ?_
         rotate_left
         ·intro w'
          go_simp
          with_reducible rfl
         rotate_left
         ·simp only [Act.put, List.setIfInBounds_toArray, List.set_cons_zero, List.set_cons_succ, i64_w, i32_w]
          rfl
         refine pure_ (i := 2) (N := some 423) (v := ?_) (a' := ?_) #[true, true, true, false, false, false, false, false, false, false, false, false, false, false, false] rfl rfl (any_of HT_.out (by kernel_rfl)) (fun _ _ _ h => h) (Or.inl ⟨by rfl, ?_⟩) ?_ ?_
         rotate_left
         ·intro w'
          go_simp
          with_reducible rfl
         rotate_left
         ·simp only [Act.put, List.setIfInBounds_toArray, List.set_cons_zero, List.set_cons_succ, i64_w, i32_w]
          rfl
         refine pure_ (i := 3) (N := some 424) (v := ?_) (a' := ?_) #[true, true, true, true, false, false, false, false, false, false, false, false, false, false, false] rfl rfl (any_of HT_.out (by kernel_rfl)) (fun _ _ _ h => h) (Or.inl ⟨by rfl, ?_⟩) ?_ ?_
         rotate_left
         ·intro w'
          go_simp
          with_reducible rfl
         rotate_left
         ·simp only [Act.put, List.setIfInBounds_toArray, List.set_cons_zero, List.set_cons_succ, i64_w, i32_w]
          rfl
         refine pure_ (i := 5) (N := some 426) (v := ?_) (a' := ?_) #[true, true, true, true, false, true, false, false, false, false, false, false, false, false, false] rfl rfl (any_of HT_.out (by kernel_rfl)) (fun _ _ _ h => h) (Or.inl ⟨by rfl, ?_⟩) ?_ ?_
         rotate_left
         ·intro w'
          go_simp
          with_reducible rfl
         rotate_left
         ·simp only [Act.put, List.setIfInBounds_toArray, List.set_cons_zero, List.set_cons_succ, i64_w, i32_w]
          rfl
         refine pure_ (i := 6) (N := some 427) (v := ?_) (a' := ?_) #[true, true, true, true, false, true, true, false, false, false, false, false, false, false, false] rfl rfl (any_of HT_.out (by kernel_rfl)) (fun _ _ _ h => h) (Or.inl ⟨by rfl, ?_⟩) ?_ ?_
         rotate_left
         ·intro w'
          go_simp
          with_reducible rfl
         rotate_left
         ·simp only [Act.put, List.setIfInBounds_toArray, List.set_cons_zero, List.set_cons_succ, i64_w, i32_w]
          rfl
         refine pure_ (i := 7) (N := some 428) (v := ?_) (a' := ?_) #[true, true, true, true, false, true, true, true, false, false, false, false, false, false, false] rfl rfl (any_of HT_.out (by kernel_rfl)) (fun _ _ _ h => h) (Or.inl ⟨by rfl, ?_⟩) ?_ ?_
         rotate_left
         ·intro w'
          go_simp
          with_reducible rfl
         rotate_left
         ·simp only [Act.put, List.setIfInBounds_toArray, List.set_cons_zero, List.set_cons_succ, i64_w, i32_w]
          rfl
         refine take_ (i := 4) (N := some 425) (v := ?_) (a' := ?_) #[true, true, true, true, true, true, true, true, false, false, false, false, false, false, false] rfl rfl (take_ofW HT_.out HW_.out (by kernel_rfl)) (fun _ _ _ h => h) (Or.inl ⟨by rfl, ?_⟩) hHeld ?_ ?_
         rotate_left
         ·rintro w' ⟨s0, s1⟩
          go_simp
          with_reducible rfl
         rotate_left
         ·simp only [Act.put, List.setIfInBounds_toArray, List.set_cons_zero, List.set_cons_succ, i64_w, i32_w]
          rfl
         refine take_ (i := 8) (N := some 429) (v := ?_) (a' := ?_) #[true, true, true, true, true, true, true, true, true, false, false, false, false, false, false] rfl rfl (take_ofW HT_.out HW_.out (by kernel_rfl)) (fun _ _ _ h => h) (Or.inl ⟨by rfl, ?_⟩) hHeld ?_ ?_
         rotate_left
         ·rintro w' ⟨s0, s1⟩
          go_simp
          with_reducible rfl
         rotate_left
         ·simp only [Act.put, List.setIfInBounds_toArray, List.set_cons_zero, List.set_cons_succ, i64_w, i32_w]
          rfl
         refine one_ (i := 9) (N := some 430) #[true, true, true, true, true, true, true, true, true, true, false, false, false, false, false] rfl rfl (one_of HT_.out (by kernel_rfl)) (by decide) (fun K hK => ?_)
         refine goes_ Tryz.func8 (by kernel_rfl) rfl #[.string (rdOf ByteArray.empty t405 (ji263)), .string (rdOf ByteArray.empty t405 x46_5)] (by rfl) rfl rfl (by (try simp only [List.map_toArray, List.map_cons, List.map_nil]); first | done | (simp only [hji263]; rfl) | rfl | (simp only [List.length_drop, List.length_take]; rfl)) ?_
         with_reducible refine (impl_FewestMoves.calls kj257 (rdOf ByteArray.empty t405 (ji263)) (rdOf ByteArray.empty t405 x46_5) t449 true _ A268.out).mono ?_
         rintro e w276 ⟨rfl, hb⟩
         have HS0_ := (hb.cell (World.block_lt_of_cell? _ _ (hHeld.1))).trans (hHeld.1)
         have HS1_ := (hb.cell (World.block_lt_of_cell? _ _ (hHeld.2))).trans (hHeld.2)
         refine ⟨_, rfl, ?_⟩
         have n0_ := Aside0.mk (Kd.R_below (by (with_reducible repeat (first | apply Kd.R_alloc | apply Kd.R_drewN | apply Kd.R_drew)); exact HO_19.out) hb)
         have n1_ := Aside0.mk (below_step (by repeat (first | (with_reducible first | exact HB.out | apply below_alloc | apply pw_below_drewN | apply below_drew1) | exact HB.out)) hb)
         clear HO_19
         clear HB
         have HO_19 := n0_
         have HB := n1_
         clear n0_ n1_
         (try clear hb)
         (try clear hb2)
         (try clear hk)
         (try clear hi)
         refine hK.out _ _ ⟨HS0_, HS1_⟩ (fun hHeld => ?_)
         clear hK K
         refine norm_ (a' := ?_) ?_ ?_
         rotate_left
         ·show Act.put _ (some 430) _ = _
          simp only [Act.put, List.setIfInBounds_toArray, List.set_cons_zero, List.set_cons_succ, i64_w, i32_w]
          rfl
         refine pure_ (i := 10) (N := some 420) (v := ?_) (a' := ?_) #[true, true, true, true, true, true, true, true, true, true, true, false, false, false, false] rfl rfl (any_of HT_.out (by kernel_rfl)) (fun _ _ _ h => h) (Or.inl ⟨by rfl, ?_⟩) ?_ ?_
         rotate_left
         ·intro w'
          go_simp
          with_reducible rfl
         rotate_left
         ·simp only [Act.put, List.setIfInBounds_toArray, List.set_cons_zero, List.set_cons_succ, i64_w, i32_w]
          rfl
         refine pure_ (i := 11) (N := some 431) (v := ?_) (a' := ?_) #[true, true, true, true, true, true, true, true, true, true, true, true, false, false, false] rfl rfl (any_of HT_.out (by kernel_rfl)) (fun _ _ _ h => h) (Or.inl ⟨by rfl, ?_⟩) ?_ ?_
         rotate_left
         ·intro w'
          go_simp
          with_reducible rfl
         rotate_left
         ·simp only [Act.put, List.setIfInBounds_toArray, List.set_cons_zero, List.set_cons_succ, i64_w, i32_w]
          rfl
         refine pure_ (i := 12) (N := some 432) (v := ?_) (a' := ?_) #[true, true, true, true, true, true, true, true, true, true, true, true, true, false, false] rfl rfl (any_of HT_.out (by kernel_rfl)) (fun _ _ _ h => h) (Or.inl ⟨by rfl, ?_⟩) ?_ ?_
         rotate_left
         ·intro w'
          go_simp
          with_reducible rfl
         rotate_left
         ·simp only [Act.put, List.setIfInBounds_toArray, List.set_cons_zero, List.set_cons_succ, i64_w, i32_w]
          rfl
         refine pure_ (i := 13) (N := some 47) (v := ?_) (a' := ?_) #[true, true, true, true, true, true, true, true, true, true, true, true, true, true, false] rfl rfl (any_of HT_.out (by kernel_rfl)) (fun _ _ _ h => h) (Or.inl ⟨by rfl, ?_⟩) ?_ ?_
         rotate_left
         ·intro w'
          go_simp
          with_reducible rfl
         rotate_left
         ·simp only [Act.put, List.setIfInBounds_toArray, List.set_cons_zero, List.set_cons_succ, i64_w, i32_w]
          rfl
         refine pure_ (i := 14) (N := some 48) (v := ?_) (a' := ?_) #[true, true, true, true, true, true, true, true, true, true, true, true, true, true, true] rfl rfl (any_of HT_.out (by kernel_rfl)) (fun _ _ _ h => h) (Or.inl ⟨by rfl, ?_⟩) ?_ ?_
         rotate_left
         ·intro w'
          go_simp
          with_reducible rfl
         rotate_left
         ·simp only [Act.put, List.setIfInBounds_toArray, List.set_cons_zero, List.set_cons_succ, i64_w, i32_w]
          rfl
         refine done_ (done_of HT_.out (by kernel_rfl)) ?_
         try go_wp2
         go_ret
         exact ⟨by first | rfl | (simp [errW_none, errW_some] <;> rfl) | (simp only [← hji263]; first | rfl | (simp [errW_none, errW_some] <;> rfl)) | (simp [*, errW_none, errW_some] <;> rfl), by repeat (first | (with_reducible first | exact HB.out | apply below_alloc | apply pw_below_drewN | apply below_drew1) | exact HB.out)⟩
       ·replace c269 := Bool.eq_false_iff.mpr c269
        subst c269
        rw [if_neg (show ¬ (false = true) by decide)] at H
        have H1 := H
        clear H
        have H := H1
        clear H1
        obtain rfl := Option.some.inj H
        try go_wp2
        have n0_ := Aside0.mk (Kd.R_drew HO_19.out)
        have n1_ := Aside0.mk (below_drew1 HB.out)
        clear HO_19
        clear HB
        have HO_19 := n0_
        have HB := n1_
        clear n0_ n1_
        obtain ⟨Ao278, co278, eo278⟩ := Kd.R_slice HO_19.out
        (first | subst eo278 | (injection eo278 with f1_ f2_ f3_; have f4_ := f1_.symm; have f5_ := f3_.symm; clear f1_ f2_ f3_; subst f4_; subst f5_))
        have p447 : 0 ≤ ((ji263) : Int) := of_decide_eq_true (by first | (with_reducible assumption) | assumption)
        have q447 : (ji263) < (t405.length : Int) := of_decide_eq_true (by first | (with_reducible assumption) | assumption)
        obtain ⟨ad447, e447, hx447_0⟩ := Kd.at_string (Kd.R_reads' HO_19.out).2.2 (ji263) p447 q447
        cases e447
        replace p447 := eq_true p447
        replace q447 := eq_true q447
        have p448 : 0 ≤ (x46_5 : Int) := of_decide_eq_true (by first | (with_reducible assumption) | assumption)
        have q448 : x46_5 < (t405.length : Int) := of_decide_eq_true (by first | (with_reducible assumption) | assumption)
        obtain ⟨ad448, e448, hx448_0⟩ := Kd.at_string (Kd.R_reads' HO_19.out).2.2 x46_5 p448 q448
        obtain rfl : ad447 = ad448 := (by injection e448)
        replace p448 := eq_true p448
        replace q448 := eq_true q448
        refine start_ (n := 15) (S := fun w' => w'.cell? (ad447.add ((ji263)).toNat) = some (.string (rdOf ByteArray.empty t405 (ji263))) ∧ w'.cell? (ad447.add (x46_5).toNat) = some (.string (rdOf ByteArray.empty t405 x46_5))) (ds := []) #[false, false, false, false, false, false, false, false, false, false, false, false, false, false, false] (by kernel_rfl) rfl rfl ⟨hx447_0, hx448_0⟩ (fun hHeld => ?_); refine with_tabW laws_FnWaysLead.tab48 laws_FnWaysLead.bits48 (fun HT_ HW_ => ?_)
        generalize wc.drew = w277 at HO_19 HB hx447_0 hx448_0 hHeld ⊢
        refine pure_ (i := 0) (N := some 421) (v := ?_) (a' := ?_) #[true, false, false, false, false, false, false, false, false, false, false, false, false, false, false] rfl rfl (any_of HT_.out (by kernel_rfl)) (fun _ _ _ h => h) (Or.inl ⟨by rfl, ?_⟩) ?_ ?_
        rotate_left
        ·intro w'
         go_simp
         with_reducible rfl
        rotate_left
        ·simp only [Act.put, List.setIfInBounds_toArray, List.set_cons_zero, List.set_cons_succ, i64_w, i32_w]
         rfl
        refine pure_ (i := 1) (N := some 422) (v := ?_) (a' := ?_) #[true, true, false, false, false, false, false, false, false, false, false, false, false, false, false] rfl rfl (any_of HT_.out (by kernel_rfl)) (fun _ _ _ h => h) (Or.inl ⟨by rfl, ?_⟩) ?_ ?_
        rotate_left
        ·intro w'
         go_simp
         with_reducible rfl
        rotate_left
        ·simp only [Act.put, List.setIfInBounds_toArray, List.set_cons_zero, List.set_cons_succ, i64_w, i32_w]
         rfl
        refine pure_ (i := 2) (N := some 423) (v := ?_) (a' := ?_) #[true, true, true, false, false, false, false, false, false, false, false, false, false, false, false] rfl rfl (any_of HT_.out (by kernel_rfl)) (fun _ _ _ h => h) (Or.inl ⟨by rfl, ?_⟩) ?_ ?_
        rotate_left
        ·intro w'
         go_simp
         with_reducible rfl
        rotate_left
        ·simp only [Act.put, List.setIfInBounds_toArray, List.set_cons_zero, List.set_cons_succ, i64_w, i32_w]
         rfl
        refine pure_ (i := 3) (N := some 424) (v := ?_) (a' := ?_) #[true, true, true, true, false, false, false, false, false, false, false, false, false, false, false] rfl rfl (any_of HT_.out (by kernel_rfl)) (fun _ _ _ h => h) (Or.inl ⟨by rfl, ?_⟩) ?_ ?_
        rotate_left
        ·intro w'
         go_simp
         with_reducible rfl
        rotate_left
        ·simp only [Act.put, List.setIfInBounds_toArray, List.set_cons_zero, List.set_cons_succ, i64_w, i32_w]
         rfl
        refine pure_ (i := 5) (N := some 426) (v := ?_) (a' := ?_) #[true, true, true, true, false, true, false, false, false, false, false, false, false, false, false] rfl rfl (any_of HT_.out (by kernel_rfl)) (fun _ _ _ h => h) (Or.inl ⟨by rfl, ?_⟩) ?_ ?_
        rotate_left
        ·intro w'
         go_simp
         with_reducible rfl
        rotate_left
        ·simp only [Act.put, List.setIfInBounds_toArray, List.set_cons_zero, List.set_cons_succ, i64_w, i32_w]
         rfl
        refine pure_ (i := 6) (N := some 427) (v := ?_) (a' := ?_) #[true, true, true, true, false, true, true, false, false, false, false, false, false, false, false] rfl rfl (any_of HT_.out (by kernel_rfl)) (fun _ _ _ h => h) (Or.inl ⟨by rfl, ?_⟩) ?_ ?_
        rotate_left
        ·intro w'
         go_simp
         with_reducible rfl
        rotate_left
        ·simp only [Act.put, List.setIfInBounds_toArray, List.set_cons_zero, List.set_cons_succ, i64_w, i32_w]
         rfl
        refine pure_ (i := 7) (N := some 428) (v := ?_) (a' := ?_) #[true, true, true, true, false, true, true, true, false, false, false, false, false, false, false] rfl rfl (any_of HT_.out (by kernel_rfl)) (fun _ _ _ h => h) (Or.inl ⟨by rfl, ?_⟩) ?_ ?_
        rotate_left
        ·intro w'
         go_simp
         with_reducible rfl
        rotate_left
        ·simp only [Act.put, List.setIfInBounds_toArray, List.set_cons_zero, List.set_cons_succ, i64_w, i32_w]
         rfl
        refine take_ (i := 4) (N := some 425) (v := ?_) (a' := ?_) #[true, true, true, true, true, true, true, true, false, false, false, false, false, false, false] rfl rfl (take_ofW HT_.out HW_.out (by kernel_rfl)) (fun _ _ _ h => h) (Or.inl ⟨by rfl, ?_⟩) hHeld ?_ ?_
        rotate_left
        ·rintro w' ⟨s0, s1⟩
         go_simp
         with_reducible rfl
        rotate_left
        ·simp only [Act.put, List.setIfInBounds_toArray, List.set_cons_zero, List.set_cons_succ, i64_w, i32_w]
         rfl
        refine take_ (i := 8) (N := some 429) (v := ?_) (a' := ?_) #[true, true, true, true, true, true, true, true, true, false, false, false, false, false, false] rfl rfl (take_ofW HT_.out HW_.out (by kernel_rfl)) (fun _ _ _ h => h) (Or.inl ⟨by rfl, ?_⟩) hHeld ?_ ?_
        rotate_left
        ·rintro w' ⟨s0, s1⟩
         go_simp
         with_reducible rfl
        rotate_left
        ·simp only [Act.put, List.setIfInBounds_toArray, List.set_cons_zero, List.set_cons_succ, i64_w, i32_w]
         rfl
        refine one_ (i := 9) (N := some 430) #[true, true, true, true, true, true, true, true, true, true, false, false, false, false, false] rfl rfl (one_of HT_.out (by kernel_rfl)) (by decide) (fun K hK => ?_)
        refine goes_ Tryz.func8 (by kernel_rfl) rfl #[.string (rdOf ByteArray.empty t405 (ji263)), .string (rdOf ByteArray.empty t405 x46_5)] (by rfl) rfl rfl (by (try simp only [List.map_toArray, List.map_cons, List.map_nil]); first | done | (simp only [hji263]; rfl) | rfl | (simp only [List.length_drop, List.length_take]; rfl)) ?_
        with_reducible refine (impl_FewestMoves.calls kj257 (rdOf ByteArray.empty t405 (ji263)) (rdOf ByteArray.empty t405 x46_5) t449 false _ A268.out).mono ?_
        rintro e w279 ⟨rfl, hb⟩
        have HS0_ := (hb.cell (World.block_lt_of_cell? _ _ (hHeld.1))).trans (hHeld.1)
        have HS1_ := (hb.cell (World.block_lt_of_cell? _ _ (hHeld.2))).trans (hHeld.2)
        refine ⟨_, rfl, ?_⟩
        have n0_ := Aside0.mk (Kd.R_below (by (with_reducible repeat (first | apply Kd.R_alloc | apply Kd.R_drewN | apply Kd.R_drew)); exact HO_19.out) hb)
        have n1_ := Aside0.mk (below_step (by repeat (first | (with_reducible first | exact HB.out | apply below_alloc | apply pw_below_drewN | apply below_drew1) | exact HB.out)) hb)
        clear HO_19
        clear HB
        have HO_19 := n0_
        have HB := n1_
        clear n0_ n1_
        (try clear hb)
        (try clear hb2)
        (try clear hk)
        (try clear hi)
        refine hK.out _ _ ⟨HS0_, HS1_⟩ (fun hHeld => ?_)
        clear hK K
        refine norm_ (a' := ?_) ?_ ?_
        rotate_left
        ·show Act.put _ (some 430) _ = _
         simp only [Act.put, List.setIfInBounds_toArray, List.set_cons_zero, List.set_cons_succ, i64_w, i32_w]
         rfl
        refine pure_ (i := 10) (N := some 420) (v := ?_) (a' := ?_) #[true, true, true, true, true, true, true, true, true, true, true, false, false, false, false] rfl rfl (any_of HT_.out (by kernel_rfl)) (fun _ _ _ h => h) (Or.inl ⟨by rfl, ?_⟩) ?_ ?_
        rotate_left
        ·intro w'
         go_simp
         with_reducible rfl
        rotate_left
        ·simp only [Act.put, List.setIfInBounds_toArray, List.set_cons_zero, List.set_cons_succ, i64_w, i32_w]
         rfl
        refine pure_ (i := 11) (N := some 431) (v := ?_) (a' := ?_) #[true, true, true, true, true, true, true, true, true, true, true, true, false, false, false] rfl rfl (any_of HT_.out (by kernel_rfl)) (fun _ _ _ h => h) (Or.inl ⟨by rfl, ?_⟩) ?_ ?_
        rotate_left
        ·intro w'
         go_simp
         with_reducible rfl
        rotate_left
        ·simp only [Act.put, List.setIfInBounds_toArray, List.set_cons_zero, List.set_cons_succ, i64_w, i32_w]
         rfl
        refine pure_ (i := 12) (N := some 432) (v := ?_) (a' := ?_) #[true, true, true, true, true, true, true, true, true, true, true, true, true, false, false] rfl rfl (any_of HT_.out (by kernel_rfl)) (fun _ _ _ h => h) (Or.inl ⟨by rfl, ?_⟩) ?_ ?_
        rotate_left
        ·intro w'
         go_simp
         with_reducible rfl
        rotate_left
        ·simp only [Act.put, List.setIfInBounds_toArray, List.set_cons_zero, List.set_cons_succ, i64_w, i32_w]
         rfl
        refine pure_ (i := 13) (N := some 47) (v := ?_) (a' := ?_) #[true, true, true, true, true, true, true, true, true, true, true, true, true, true, false] rfl rfl (any_of HT_.out (by kernel_rfl)) (fun _ _ _ h => h) (Or.inl ⟨by rfl, ?_⟩) ?_ ?_
        rotate_left
        ·intro w'
         go_simp
         with_reducible rfl
        rotate_left
        ·simp only [Act.put, List.setIfInBounds_toArray, List.set_cons_zero, List.set_cons_succ, i64_w, i32_w]
         rfl
        refine pure_ (i := 14) (N := some 48) (v := ?_) (a' := ?_) #[true, true, true, true, true, true, true, true, true, true, true, true, true, true, true] rfl rfl (any_of HT_.out (by kernel_rfl)) (fun _ _ _ h => h) (Or.inl ⟨by rfl, ?_⟩) ?_ ?_
        rotate_left
        ·intro w'
         go_simp
         with_reducible rfl
        rotate_left
        ·simp only [Act.put, List.setIfInBounds_toArray, List.set_cons_zero, List.set_cons_succ, i64_w, i32_w]
         rfl
        refine done_ (done_of HT_.out (by kernel_rfl)) ?_
        try go_wp2
        go_ret
        exact ⟨by first | rfl | (simp [errW_none, errW_some] <;> rfl) | (simp only [← hji263]; first | rfl | (simp [errW_none, errW_some] <;> rfl)) | (simp [*, errW_none, errW_some] <;> rfl), by repeat (first | (with_reducible first | exact HB.out | apply below_alloc | apply pw_below_drewN | apply below_drew1) | exact HB.out)⟩
      ·rw [if_neg c267] at H
       exact absurd H (by simp)
     ·rw [if_neg c266] at H
      exact absurd H (by simp)
    ·rw [if_neg c265] at H
     exact absurd H (by simp)
   ·rw [if_neg c264] at H
    exact absurd H (by simp)
  ·replace c262 := Bool.eq_false_iff.mpr c262
   subst c262
   rw [if_neg (show ¬ (false = true) by decide)] at H
   have H1 := H
   clear H
   have H := H1
   clear H1
   have H' := Aside0.mk H
   clear H
   go_wp2
   refine Met.intro (hJ_ _ _ ?mg_ ?rel)
   case mg_ => kernel_rfl
   case rel => exact ⟨_, H', ⟨by have := HJ17.out; have := HJ148.out; have := HJ224.out; have := HJ247.out; have := HK5.out; have := HJ257.out; first | omega | exact Nat.le_refl _⟩, ⟨by repeat (first | (with_reducible first | exact HB.out | apply below_alloc | apply pw_below_drewN | apply below_drew1) | exact HB.out)⟩⟩

def laws_FnWaysLead.c17 : PSigma fun P0_ : Prop => PSigma fun P1_ : Prop => Hole P0_ → Hole P1_ → laws_FnWaysLead.c12.2.1 := by
 refine' ⟨_, _, fun HP0_ HP1_ => _⟩
 rotate_left 2
 intro k A0 c0 l0 A1 c1 l1 r w HR0 HC0 HR1 HC1 A3 t387 t388 A5 t389 t390 A6 t393 t394 A7 t397 t398 A8 t399 t400 A9 t401 t402 A10 t403 t404 A11 t405 t406 A12 t409 t410 A13 t413 t414 A14 t415 t416 A15 t417 t418 A16 t421 t422 A17 _ _ _ w19 w20 v391 w21 v395 w22 _ w23 w24 w25 v407 w26 v411 w27 nd w28 v419 w29 v423 HO392 HO396 HO408 HO412 HO420 HO424 _ _ _ _ _ _ _ kj17 HJ17 _ _ HO_7 _ HO_27 _ kj148 HJ148 _ _ HO_19 HB kj224 HJ224 HC246 _ _ f_ wc hcut
 clear HC246
 try clear c2
 try clear p2
 try clear p4
 try clear q4
 try clear hx4
 try clear p6
 try clear c8
 try clear c24
 try clear c26
 try clear c27
 try clear p44
 try clear q44
 try clear hx44
 try clear p64
 try clear c247
 try clear c262
 try clear c264
 try clear c264b0
 try clear c265
 try clear c265b0
 try clear c266
 try clear c266b0
 try clear c267
 try clear c267b0
 try clear c269
 try clear c270
 try clear c270b0
 try clear c270b1
 try clear hx447_0
 try clear hx448_0
 try clear p445
 try clear p446
 try clear p447
 try clear p448
 try clear p6
 try clear p64
 try clear q4
 try clear q44
 try clear q442
 try clear q443
 try clear q444
 try clear q445
 try clear q446
 try clear q447
 try clear q448
 obtain ⟨kq, HA, HJ245, HB⟩ := hcut
 cases kq with
 | zero => exact absurd HA.out (by simp [laws_FnWaysLead.j9])
 | succ kj245 =>
  have H := HA.out
  clear HA
  simp only [laws_FnWaysLead.j9] at H
  replace H := Option.bind_eq_some_iff.mp H
  obtain ⟨t451, A2800, H⟩ := H
  try dsimp +instances only at H
  replace H := H
  have A280 := Aside0.mk A2800
  clear A2800
  replace H := Option.bind_eq_some_iff.mp H
  obtain ⟨⟨t452, t453⟩, A2810, H⟩ := H
  try dsimp +instances only at H
  replace H := H
  have A281 := Aside0.mk A2810
  clear A2810
  replace H := Option.bind_eq_some_iff.mp H
  obtain ⟨⟨t454, t455⟩, A2820, H⟩ := H
  try dsimp +instances only at H
  replace H := H
  have A282 := Aside0.mk A2820
  clear A2820
  replace H := Option.bind_eq_some_iff.mp H
  obtain ⟨⟨t456, t457⟩, A2830, H⟩ := H
  try dsimp +instances only at H
  replace H := H
  have A283 := Aside0.mk A2830
  clear A2830
  replace H := Option.bind_eq_some_iff.mp H
  obtain ⟨⟨t458, t459⟩, A2840, H⟩ := H
  try dsimp +instances only at H
  replace H := H
  have A284 := Aside0.mk A2840
  clear A2840
  replace H := Option.bind_eq_some_iff.mp H
  obtain ⟨⟨t460, t461⟩, A2850, H⟩ := H
  try dsimp +instances only at H
  replace H := H
  have A285 := Aside0.mk A2850
  clear A2850
  replace H := Option.bind_eq_some_iff.mp H
  obtain ⟨⟨t462, t463⟩, A2860, H⟩ := H
  try dsimp +instances only at H
  replace H := H
  have A286 := Aside0.mk A2860
  clear A2860
  replace H := Option.bind_eq_some_iff.mp H
  obtain ⟨t464, A2870, H⟩ := H
  try dsimp +instances only at H
  replace H := H
  have A287 := Aside0.mk A2870
  clear A2870
  replace H := Option.bind_eq_some_iff.mp H
  obtain ⟨⟨t467, t468⟩, A2880, H⟩ := H
  try dsimp +instances only at H
  replace H := H
  have A288 := Aside0.mk A2880
  clear A2880
  replace H := Option.bind_eq_some_iff.mp H
  obtain ⟨⟨t469, t470⟩, A2890, H⟩ := H
  try dsimp +instances only at H
  replace H := H
  have A289 := Aside0.mk A2890
  clear A2890
  replace H := Option.bind_eq_some_iff.mp H
  obtain ⟨t471, A2900, H⟩ := H
  try dsimp +instances only at H
  replace H := H
  have A290 := Aside0.mk A2900
  clear A2900
  replace H := Option.bind_eq_some_iff.mp H
  obtain ⟨⟨t472, t473⟩, A2910, H⟩ := H
  try dsimp +instances only at H
  replace H := H
  have A291 := Aside0.mk A2910
  clear A2910
  replace H := Option.bind_eq_some_iff.mp H
  obtain ⟨⟨t476, t477⟩, A2920, H⟩ := H
  try dsimp +instances only at H
  replace H := H
  have A292 := Aside0.mk A2920
  clear A2920
  have HC293 := Aside0.mk H
  clear H
  go_upto_region 64 with (first | ((with_reducible refine gate_callee (f := 22) rfl ?_); refine goesL_ (some 440) rfl rfl Tryz.func22 (by kernel_rfl) rfl #[.slice A1 l1.length c1] rfl (by (try simp only [List.map_toArray, List.map_cons, List.map_nil]); first | done | rfl | (simp only [List.length_drop, List.length_take]; rfl)) ?_; (with_reducible refine (spec_DrawMovesToClear.calls _ _ l1 t451 _ ?side1 ?side2 A280.out).mono ?_); (case side1 => repeat (first | exact (Kd.C_below HR1.out HB.out) | (with_reducible refine Kd.C_alloc ?_ _) | (with_reducible refine Kd.C_drewN ?_ _) | (with_reducible refine Kd.C_drew ?_))); (case side2 => exact HC1.out); rintro e w294 ⟨rfl, hb⟩; refine ⟨_, rfl, ?_⟩; have n0_ := Aside0.mk (below_step (by repeat (first | (with_reducible first | exact HB.out | apply below_alloc | apply pw_below_drewN | apply below_drew1) | exact HB.out)) hb); clear HB; have HB := n0_; clear n0_; (try clear hb); (try clear hb2); (try clear hk); (try clear hi)) | ((with_reducible refine gate_callee (f := 23) rfl ?_); refine goesL_ (some 443) rfl rfl Tryz.func23 (by kernel_rfl) rfl #[.int .i64 t451] rfl (by (try simp only [List.map_toArray, List.map_cons, List.map_nil]); first | done | rfl | (simp only [List.length_drop, List.length_take]; rfl)) ?_; (with_reducible refine (impl_MovesToClear.calls kj245 t451 t452 t453 _ A281.out).mono ?_); rintro e w295 ⟨rfl, hb⟩; refine ⟨_, rfl, ?_⟩; have n0_ := Aside0.mk (below_step (by repeat (first | (with_reducible first | exact HB.out | apply below_alloc | apply pw_below_drewN | apply below_drew1) | exact HB.out)) hb); clear HB; have HB := n0_; clear n0_; (try clear hb); (try clear hb2); (try clear hk); (try clear hi)) | ((with_reducible refine gate_callee (f := 24) rfl ?_); refine goesL_ (some 448) rfl rfl Tryz.func24 (by kernel_rfl) rfl #[.int .i64 t451] rfl (by (try simp only [List.map_toArray, List.map_cons, List.map_nil]); first | done | rfl | (simp only [List.length_drop, List.length_take]; rfl)) ?_; (with_reducible refine (spec_MovesToClear.calls kj245 t451 t454 t455 _ A282.out).mono ?_); rintro e w' ⟨rfl, ⟨nd, rfl⟩⟩; refine ⟨_, rfl, ?_⟩) | ((with_reducible refine gate_callee (f := 25) rfl ?_); refine goesL_ (some 453) rfl rfl Tryz.func25 (by kernel_rfl) rfl #[.int .i64 t451] rfl (by (try simp only [List.map_toArray, List.map_cons, List.map_nil]); first | done | rfl | (simp only [List.length_drop, List.length_take]; rfl)) ?_; (with_reducible refine (impl_AllOn.calls t451 t456 t457 _ A283.out).mono ?_); rintro e w296 ⟨rfl, hb⟩; refine ⟨_, rfl, ?_⟩; have n0_ := Aside0.mk (below_step (by repeat (first | (with_reducible first | exact HB.out | apply below_alloc | apply pw_below_drewN | apply below_drew1) | exact HB.out)) hb); clear HB; have HB := n0_; clear n0_; (try clear hb); (try clear hb2); (try clear hk); (try clear hi)) | ((with_reducible refine gate_callee (f := 26) rfl ?_); refine goesL_ (some 458) rfl rfl Tryz.func26 (by kernel_rfl) rfl #[.int .i64 t451] rfl (by (try simp only [List.map_toArray, List.map_cons, List.map_nil]); first | done | rfl | (simp only [List.length_drop, List.length_take]; rfl)) ?_; (with_reducible refine (spec_AllOn.calls kj245 t451 t458 t459 _ A284.out).mono ?_); rintro e w' ⟨rfl, ⟨nd, rfl⟩⟩; refine ⟨_, rfl, ?_⟩) | ((with_reducible refine gate_callee (f := 27) rfl ?_); refine goesL_ (some 463) rfl rfl Tryz.func27 (by kernel_rfl) rfl #[.int .i64 t451] rfl (by (try simp only [List.map_toArray, List.map_cons, List.map_nil]); first | done | rfl | (simp only [List.length_drop, List.length_take]; rfl)) ?_; (with_reducible refine (impl_OtherEnd.calls kj245 t451 t460 t461 _ A285.out).mono ?_); rintro e w297 ⟨rfl, hb⟩; refine ⟨_, rfl, ?_⟩; have n0_ := Aside0.mk (below_step (by repeat (first | (with_reducible first | exact HB.out | apply below_alloc | apply pw_below_drewN | apply below_drew1) | exact HB.out)) hb); clear HB; have HB := n0_; clear n0_; (try clear hb); (try clear hb2); (try clear hk); (try clear hi)) | ((with_reducible refine gate_callee (f := 28) rfl ?_); refine goesL_ (some 468) rfl rfl Tryz.func28 (by kernel_rfl) rfl #[.int .i64 t451] rfl (by (try simp only [List.map_toArray, List.map_cons, List.map_nil]); first | done | rfl | (simp only [List.length_drop, List.length_take]; rfl)) ?_; (with_reducible refine (spec_OtherEnd.calls kj245 t451 t462 t463 _ A286.out).mono ?_); rintro e w' ⟨rfl, ⟨nd, rfl⟩⟩; refine ⟨_, rfl, ?_⟩) | ((with_reducible refine gate_callee (f := 29) rfl ?_); refine goesL_ (some 472) rfl rfl Tryz.func29 (by kernel_rfl) rfl #[.slice A1 l1.length c1] rfl (by (try simp only [List.map_toArray, List.map_cons, List.map_nil]); first | done | rfl | (simp only [List.length_drop, List.length_take]; rfl)) ?_; (with_reducible refine (spec_DrawMovesText.calls kj245 _ _ l1 t464 _ ?side1 ?side2 A287.out).mono ?_); (case side1 => repeat (first | exact (Kd.C_below HR1.out (by repeat (first | (with_reducible first | exact HB.out | apply below_alloc | apply pw_below_drewN | apply below_drew1) | exact HB.out))) | (with_reducible refine Kd.C_alloc ?_ _) | (with_reducible refine Kd.C_drewN ?_ _) | (with_reducible refine Kd.C_drew ?_))); (case side2 => exact HC1.out); rintro e w298 ⟨v465, rfl, ho0, hb⟩; refine ⟨_, rfl, ?_⟩; have n0_ := Aside0.mk (Kd.R_lower ho0 (below_size (by repeat (first | (with_reducible first | exact HB.out | apply below_alloc | apply pw_below_drewN | apply below_drew1) | exact HB.out)))); have n1_ := Aside0.mk (below_step (by repeat (first | (with_reducible first | exact HB.out | apply below_alloc | apply pw_below_drewN | apply below_drew1) | exact HB.out)) hb); clear HB; have HO466 := n0_; have HB := n1_; clear n0_ n1_; (try clear hb); (try clear hb2); (try clear hk); (try clear hi); (try clear ho0); obtain ⟨Ao299, co299, eo299⟩ := Kd.R_slice HO466.out; subst eo299) | ((with_reducible refine gate_callee (f := 30) rfl ?_); refine goesL_ (some 475) rfl rfl Tryz.func30 (by kernel_rfl) rfl #[.slice Ao299 t464.length co299] rfl (by (try simp only [List.map_toArray, List.map_cons, List.map_nil]); first | done | rfl | (simp only [List.length_drop, List.length_take]; rfl)) ?_; (with_reducible refine (impl_MovesText.calls kj245 _ _ t464 t467 t468 _ ?side1 ?side2 A288.out).mono ?_); (case side1 => repeat (first | exact (Kd.R_reads' HO466.out).2.2 | (with_reducible refine Kd.C_alloc ?_ _) | (with_reducible refine Kd.C_drewN ?_ _) | (with_reducible refine Kd.C_drew ?_))); (case side2 => exact (Kd.R_reads' HO466.out).2.1); rintro e w300 ⟨rfl, hb⟩; refine ⟨_, rfl, ?_⟩; have n0_ := Aside0.mk (Kd.R_below (by (with_reducible repeat (first | apply Kd.R_alloc | apply Kd.R_drewN | apply Kd.R_drew)); exact HO466.out) hb); have n1_ := Aside0.mk (below_step (by repeat (first | (with_reducible first | exact HB.out | apply below_alloc | apply pw_below_drewN | apply below_drew1) | exact HB.out)) hb); clear HO466; clear HB; have HO466 := n0_; have HB := n1_; clear n0_ n1_; (try clear hb); (try clear hb2); (try clear hk); (try clear hi)) | ((with_reducible refine gate_callee (f := 31) rfl ?_); refine goesL_ (some 480) rfl rfl Tryz.func31 (by kernel_rfl) rfl #[.slice Ao299 t464.length co299] rfl (by (try simp only [List.map_toArray, List.map_cons, List.map_nil]); first | done | rfl | (simp only [List.length_drop, List.length_take]; rfl)) ?_; (with_reducible refine (spec_MovesText.calls kj245 _ _ t464 t469 t470 _ ?side1 ?side2 A289.out).mono ?_); (case side1 => repeat (first | exact (Kd.R_reads' HO466.out).2.2 | (with_reducible refine Kd.C_alloc ?_ _) | (with_reducible refine Kd.C_drewN ?_ _) | (with_reducible refine Kd.C_drew ?_))); (case side2 => exact (Kd.R_reads' HO466.out).2.1); rintro e w' ⟨rfl, ⟨nd, rfl⟩⟩; refine ⟨_, rfl, ?_⟩) | ((with_reducible refine gate_callee (f := 32) rfl ?_); refine goesL_ (some 484) rfl rfl Tryz.func32 (by kernel_rfl) rfl #[.slice A1 l1.length c1] rfl (by (try simp only [List.map_toArray, List.map_cons, List.map_nil]); first | done | rfl | (simp only [List.length_drop, List.length_take]; rfl)) ?_; (with_reducible refine (spec_DrawParseMoves.calls kj245 _ _ l1 t471 _ ?side1 ?side2 A290.out).mono ?_); (case side1 => repeat (first | exact (Kd.C_below HR1.out (by repeat (first | (with_reducible first | exact HB.out | apply below_alloc | apply pw_below_drewN | apply below_drew1) | exact HB.out))) | (with_reducible refine Kd.C_alloc ?_ _) | (with_reducible refine Kd.C_drewN ?_ _) | (with_reducible refine Kd.C_drew ?_))); (case side2 => exact HC1.out); rintro e w301 ⟨rfl, hb⟩; refine ⟨_, rfl, ?_⟩; have n0_ := Aside0.mk (Kd.R_below (by (with_reducible repeat (first | apply Kd.R_alloc | apply Kd.R_drewN | apply Kd.R_drew)); exact HO466.out) hb); have n1_ := Aside0.mk (below_step (by repeat (first | (with_reducible first | exact HB.out | apply below_alloc | apply pw_below_drewN | apply below_drew1) | exact HB.out)) hb); clear HO466; clear HB; have HO466 := n0_; have HB := n1_; clear n0_ n1_; (try clear hb); (try clear hb2); (try clear hk); (try clear hi)) | ((with_reducible refine gate_callee (f := 33) rfl ?_); refine goesL_ (some 487) rfl rfl Tryz.func33 (by kernel_rfl) rfl #[.string t471] rfl (by (try simp only [List.map_toArray, List.map_cons, List.map_nil]); first | done | rfl | (simp only [List.length_drop, List.length_take]; rfl)) ?_; (with_reducible refine (impl_ParseMoves.calls kj245 t471 t472 t473 _ A291.out).mono ?_); rintro e w302 ⟨v474, rfl, ho0, hb⟩; refine ⟨_, rfl, ?_⟩; have n0_ := Aside0.mk (Kd.R_elder' (by (with_reducible repeat (first | apply Kd.R_alloc | apply Kd.R_drewN | apply Kd.R_drew)); exact HO466.out) (Kd.R_base ho0) hb); have n1_ := Aside0.mk (Kd.R_lower (Kd.R_new' ho0 (Kd.R_lt (by (with_reducible repeat (first | apply Kd.R_alloc | apply Kd.R_drewN | apply Kd.R_drew)); exact HO466.out))) (below_size (by repeat (first | (with_reducible first | exact HB.out | apply below_alloc | apply pw_below_drewN | apply below_drew1) | exact HB.out)))); have n2_ := Aside0.mk (below_step (by repeat (first | (with_reducible first | exact HB.out | apply below_alloc | apply pw_below_drewN | apply below_drew1) | exact HB.out)) hb); clear HO466; clear HB; have HO466 := n0_; have HO475 := n1_; have HB := n2_; clear n0_ n1_ n2_; (try clear hb); (try clear hb2); (try clear hk); (try clear hi); (try clear ho0)) | ((with_reducible refine gate_callee (f := 34) rfl ?_); refine goesL_ (some 492) rfl rfl Tryz.func34 (by kernel_rfl) rfl #[.string t471] rfl (by (try simp only [List.map_toArray, List.map_cons, List.map_nil]); first | done | rfl | (simp only [List.length_drop, List.length_take]; rfl)) ?_; (with_reducible refine (spec_ParseMoves.calls kj245 t471 t476 t477 _ A292.out).mono ?_); rintro e w303 ⟨v478, rfl, ho0, hb⟩; refine ⟨_, rfl, ?_⟩; have n0_ := Aside0.mk (Kd.R_elder' (by (with_reducible repeat (first | apply Kd.R_alloc | apply Kd.R_drewN | apply Kd.R_drew)); exact HO466.out) (Kd.R_base ho0) hb); have n1_ := Aside0.mk (Kd.R_elder' (by (with_reducible repeat (first | apply Kd.R_alloc | apply Kd.R_drewN | apply Kd.R_drew)); exact HO475.out) (Kd.R_base ho0) hb); have n2_ := Aside0.mk (Kd.R_lower (Kd.R_new' (Kd.R_new' ho0 (Kd.R_lt (by (with_reducible repeat (first | apply Kd.R_alloc | apply Kd.R_drewN | apply Kd.R_drew)); exact HO466.out))) (Kd.R_lt (by (with_reducible repeat (first | apply Kd.R_alloc | apply Kd.R_drewN | apply Kd.R_drew)); exact HO475.out))) (below_size (by repeat (first | (with_reducible first | exact HB.out | apply below_alloc | apply pw_below_drewN | apply below_drew1) | exact HB.out)))); have n3_ := Aside0.mk (below_step (by repeat (first | (with_reducible first | exact HB.out | apply below_alloc | apply pw_below_drewN | apply below_drew1) | exact HB.out)) hb); clear HO466; clear HO475; clear HB; have HO466 := n0_; have HO475 := n1_; have HO479 := n2_; have HB := n3_; clear n0_ n1_ n2_ n3_; (try clear hb); (try clear hb2); (try clear hk); (try clear hi); (try clear ho0)))
  (try simp only [Act.put, List.setIfInBounds_toArray, List.set_cons_zero, List.set_cons_succ])
  refine wp_cutF [o_,o_,o_,o_,o_,o_,o_,o_,o_,o_,o_,o_,o_,o_,o_,o_,o_,o_,o_,o_,o_,o_,o_,o_,o_,o_,o_,o_,o_,o_,o_,o_,o_,o_,o_,o_,o_,o_,o_,o_,o_,o_,o_,o_,o_,o_,o_,o_,o_,o_,o_,o_,o_,o_,o_,o_,o_,o_,o_,o_,o_,o_,o_,o_,o_,o_,o_,o_,o_,o_,o_,o_,o_,o_,o_,o_,o_,o_,o_,o_,i_,i_,i_,i_,i_,i_,i_,i_,i_,i_,i_,i_,i_,i_,i_,i_,i_,i_,i_,i_,i_,i_,i_,i_,i_,i_,i_,i_,i_,i_,i_,i_,i_,i_,i_,i_,i_,i_,i_,i_,i_,i_,i_,i_,i_,i_,i_,i_,i_,i_,i_,i_,i_,i_,i_,i_,i_,i_,i_,i_,i_,i_,i_,i_,i_,i_,i_,i_,i_,i_,i_,i_,i_,i_,i_,i_,i_,i_,i_,i_,i_,i_,i_,i_,i_,i_,i_,i_,i_,i_,i_,i_,i_,i_,i_,i_,i_,i_,i_,i_,i_,i_,i_,i_,i_,i_,i_,i_,i_,i_,i_,i_,i_,i_,i_,i_,i_,i_,i_,i_,i_,i_,i_,i_,i_,i_,i_,i_,i_,i_,i_,i_,i_,i_,i_,i_,i_,i_,i_,i_,i_,i_,i_,i_,i_,i_,i_,i_,i_,i_,i_,i_,i_,i_,i_,i_,i_,i_,i_,i_,i_,i_,i_,i_,i_,i_,i_,i_,i_,i_,i_,i_,i_,i_,i_,i_,i_,i_,i_,i_,i_,i_,i_,i_,i_,i_,i_,i_,i_,i_,i_,i_,i_,i_,i_,i_,i_,i_,i_,i_,i_,i_,i_,i_,i_,i_,i_,i_,i_,i_,i_,i_,i_,i_,i_,i_,i_,i_,i_,i_,i_,i_,i_,i_,i_,i_,i_,i_,i_,i_,i_,i_,i_,i_,i_,i_,i_,i_,i_,i_,i_,i_,i_,i_,i_,i_,i_,i_,i_,i_,i_,i_,i_,i_,i_,i_,i_,i_,i_,i_,i_,i_,i_,i_,i_,i_,i_,i_,i_,i_,i_,i_,i_,i_,i_,i_,i_,i_,i_,i_,i_,i_,i_,i_,i_,i_,o_,o_,o_,i_,i_,i_,i_,o_,o_,o_,i_,i_,i_,i_,i_,i_,i_,i_,i_,i_,i_,i_,i_,i_,i_,i_,i_,i_,i_,i_,i_,i_,i_,i_,i_,i_,i_,i_,i_,i_,i_,i_,i_,i_,i_,i_,i_,i_,i_,i_,i_,i_,i_,i_,i_,i_,i_,i_,i_,i_,i_,i_,i_,i_,i_,i_,i_,i_,i_,i_,i_,i_,i_,i_,i_,i_,i_,i_,i_,i_,i_,i_,i_,i_,i_,i_,i_,i_,i_,i_,i_,i_,i_,i_,i_,i_,i_,i_,i_,i_,i_,i_,i_,i_,i_,i_,i_,i_,i_,i_,i_,i_,i_,i_,i_,i_,i_,i_,i_,i_,i_,i_,i_,i_,i_,i_,i_,i_,i_,i_,i_,i_,i_,i_,i_,i_,i_,i_,i_,i_,i_,i_,i_,i_,i_,i_,i_,i_,i_,i_,i_,i_,i_,i_,i_,i_,i_,i_,i_,i_,i_,i_,i_,i_,i_,i_,i_,i_,i_,i_,i_,i_,i_,i_,i_,i_,i_,i_,i_,i_,i_,i_,i_,i_,i_,i_,i_,i_,i_,i_,i_,i_,i_,i_,i_,i_,i_,i_,i_,i_,i_,i_,i_,i_,i_,i_,i_,i_,i_,i_,i_,i_,i_,i_,i_,i_,i_,i_,i_,i_,i_,i_,i_,i_,i_,i_,i_,i_,i_,i_,i_,i_,i_,i_,i_,i_,i_,i_,i_,i_,i_,i_,i_,i_,i_,i_,i_,i_,i_,i_,i_] (fun f_ wc => ∃ (kq : Nat) (x553_292 : Bool), (f_ 553) = .bool x553_292 ∧ Aside0 (laws_FnWaysLead.j10 kq t451 t452 t453 t456 t460 t464 t467 t468 t471 t472 t473 x553_292 = some r) ∧ Aside0 (kq ≤ kj245) ∧ Aside0 (Kd.R (Kd.int .i64) 3 wc w.heap.size (fun k_ => some k_ ≠ (v474 : Value).ownBlock) (.slice Ao299 t464.length co299) t464) ∧ Aside0 (Kd.R (Kd.int .i64) 3 wc w.heap.size (fun k_ => some k_ ≠ ((.slice Ao299 t464.length co299) : Value).ownBlock) v474 t472) ∧ Aside0 (Below w.heap.size w wc)) ?rest ?first
  case first =>
   intro J_ K_ hJ_ hK_
   repeat revert ‹_›
   intro HP0_ HP1_
   exact HP0_.out
  case rest =>
   intro f_ wc hcut
   dsimp only [maskF] at hcut ⊢
   generalize f_ 553 = u553 at hcut ⊢
   repeat revert ‹_›
   intro HP0_ HP1_
   exact HP1_.out

theorem laws_FnWaysLead.c18 : laws_FnWaysLead.c17.1 := by
 intro k A0 c0 l0 A1 c1 l1 r w HR0 HC0 HR1 HC1 A3 t387 t388 A5 t389 t390 A6 t393 t394 A7 t397 t398 A8 t399 t400 A9 t401 t402 A10 t403 t404 A11 t405 t406 A12 t409 t410 A13 t413 t414 A14 t415 t416 A15 t417 t418 A16 t421 t422 A17 _ _ _ w19 w20 v391 w21 v395 w22 _ w23 w24 w25 v407 w26 v411 w27 _ w28 v419 w29 v423 HO392 HO396 HO408 HO412 HO420 HO424 _ _ _ _ _ _ _ kj17 HJ17 _ _ HO_7 _ HO_27 _ kj148 HJ148 _ _ HO_19 _ kj224 HJ224 f_ wc kj245 HJ245 t451 A280 t452 t453 A281 t454 t455 A282 t456 t457 A283 t458 t459 A284 t460 t461 A285 t462 t463 A286 t464 A287 t467 t468 A288 t469 t470 A289 t471 A290 t472 t473 A291 t476 t477 A292 HC293 w294 w295 _ w296 _ w297 _ w298 Ao299 co299 w300 nd w301 w302 v474 w303 v478 HO466 HO475 HO479 HB _ _ _ _ J_ K_ hJ_ hK_
 have H := HC293.out
 clear HC293
 by_cases c304 : (t453 != t455) = true
 ·rw [if_pos c304] at H
  have c304b0 : (t453 != t455) = true := c304
  (try (have c304b1 : decide (t453 = t455) = false := by simpa using c304))
  (try (have c304b2 : (t453 == t455) = false := by simpa using c304))
  (try (have c304b3 : ¬ (t453 = t455) := by simpa using c304))
  clear c304
  (first | rw [c304b0] | (simp only [i64_w, i32_w]; rw [c304b0]) | skip)
  have H' := Aside0.mk H
  clear H
  go_wp2
  refine Met.intro (hJ_ _ _ ?mg_ ?rel)
  case mg_ => kernel_rfl
  case rel => exact ⟨_, (true), (by first | rfl | ((conv => lhs; whnf); first | rfl | (simp; done) | (simp [*]; done))), H', ⟨by have := HJ17.out; have := HJ148.out; have := HJ224.out; have := HJ245.out; first | omega | exact Nat.le_refl _⟩, ⟨by (with_reducible repeat (first | apply Kd.R_alloc | apply Kd.R_drewN | apply Kd.R_drew)); exact Kd.R_mono HO466.out (fun _ hk => hk.1.2)⟩, ⟨by (with_reducible repeat (first | apply Kd.R_alloc | apply Kd.R_drewN | apply Kd.R_drew)); exact Kd.R_mono HO475.out (fun _ hk => hk.1.2)⟩, ⟨by repeat (first | (with_reducible first | exact HB.out | apply below_alloc | apply pw_below_drewN | apply below_drew1) | exact HB.out)⟩⟩
 ·rw [if_neg c304] at H
  have c304b0 : (t453 != t455) = false := by simpa using c304
  (try (have c304b1 : decide (t453 = t455) = true := by simpa using c304))
  (try (have c304b2 : (t453 == t455) = true := by simpa using c304))
  clear c304
  (try (have c304e : t453 = t455 := by first | simpa using c304b0 | (simpa using (bne_eq_false_iff_eq.mp c304b0).symm)); (subst c304e))
  (first | rw [c304b0] | (simp only [i64_w, i32_w]; rw [c304b0]) | skip)
  by_cases c305 : t452 = t454
  ·rw [if_pos c305] at H
   have c305b0 : (t452 == t454) = true := beq_iff_eq.mpr c305
   have c305b1 : (t452 != t454) = false := bne_eq_false_iff_eq.mpr c305
   clear c305
   by_cases c306 : (t457 != t459) = true
   ·rw [if_pos c306] at H
    have c306b0 : (t457 != t459) = true := c306
    (try (have c306b1 : decide (t457 = t459) = false := by simpa using c306))
    (try (have c306b2 : (t457 == t459) = false := by simpa using c306))
    (try (have c306b3 : ¬ (t457 = t459) := by simpa using c306))
    clear c306
    have H' := Aside0.mk H
    clear H
    go_wp2
    refine Met.intro (hJ_ _ _ ?mg_ ?rel)
    case mg_ => kernel_rfl
    case rel => exact ⟨_, (true), (by first | rfl | ((conv => lhs; whnf); first | rfl | (simp; done) | (simp [*]; done))), H', ⟨by have := HJ17.out; have := HJ148.out; have := HJ224.out; have := HJ245.out; first | omega | exact Nat.le_refl _⟩, ⟨by (with_reducible repeat (first | apply Kd.R_alloc | apply Kd.R_drewN | apply Kd.R_drew)); exact Kd.R_mono HO466.out (fun _ hk => hk.1.2)⟩, ⟨by (with_reducible repeat (first | apply Kd.R_alloc | apply Kd.R_drewN | apply Kd.R_drew)); exact Kd.R_mono HO475.out (fun _ hk => hk.1.2)⟩, ⟨by repeat (first | (with_reducible first | exact HB.out | apply below_alloc | apply pw_below_drewN | apply below_drew1) | exact HB.out)⟩⟩
   ·rw [if_neg c306] at H
    have c306b0 : (t457 != t459) = false := by simpa using c306
    (try (have c306b1 : decide (t457 = t459) = true := by simpa using c306))
    (try (have c306b2 : (t457 == t459) = true := by simpa using c306))
    clear c306
    (try (have c306e : t457 = t459 := by first | simpa using c306b0 | (simpa using (bne_eq_false_iff_eq.mp c306b0).symm)); (subst c306e))
    by_cases c307 : t456.toList = t458.toList
    ·rw [if_pos c307] at H
     have c307b0 : (t456.toList == t458.toList) = true := beq_iff_eq.mpr c307
     have c307b1 : (t456.toList != t458.toList) = false := bne_eq_false_iff_eq.mpr c307
     (try (have c307n1 : (!(t456.toList == t458.toList)) = false := c307b1))
     clear c307
     by_cases c308 : (t461 != t463) = true
     ·rw [if_pos c308] at H
      have c308b0 : (t461 != t463) = true := c308
      (try (have c308b1 : decide (t461 = t463) = false := by simpa using c308))
      (try (have c308b2 : (t461 == t463) = false := by simpa using c308))
      (try (have c308b3 : ¬ (t461 = t463) := by simpa using c308))
      clear c308
      have H' := Aside0.mk H
      clear H
      go_wp2
      refine Met.intro (hJ_ _ _ ?mg_ ?rel)
      case mg_ => kernel_rfl
      case rel => exact ⟨_, (true), (by first | rfl | ((conv => lhs; whnf); first | rfl | (simp; done) | (simp [*]; done))), H', ⟨by have := HJ17.out; have := HJ148.out; have := HJ224.out; have := HJ245.out; first | omega | exact Nat.le_refl _⟩, ⟨by (with_reducible repeat (first | apply Kd.R_alloc | apply Kd.R_drewN | apply Kd.R_drew)); exact Kd.R_mono HO466.out (fun _ hk => hk.1.2)⟩, ⟨by (with_reducible repeat (first | apply Kd.R_alloc | apply Kd.R_drewN | apply Kd.R_drew)); exact Kd.R_mono HO475.out (fun _ hk => hk.1.2)⟩, ⟨by repeat (first | (with_reducible first | exact HB.out | apply below_alloc | apply pw_below_drewN | apply below_drew1) | exact HB.out)⟩⟩
     ·rw [if_neg c308] at H
      have c308b0 : (t461 != t463) = false := by simpa using c308
      (try (have c308b1 : decide (t461 = t463) = true := by simpa using c308))
      (try (have c308b2 : (t461 == t463) = true := by simpa using c308))
      clear c308
      (try (have c308e : t461 = t463 := by first | simpa using c308b0 | (simpa using (bne_eq_false_iff_eq.mp c308b0).symm)); (subst c308e))
      by_cases c309 : t460.toList = t462.toList
      ·rw [if_pos c309] at H
       have c309b0 : (t460.toList == t462.toList) = true := beq_iff_eq.mpr c309
       have c309b1 : (t460.toList != t462.toList) = false := bne_eq_false_iff_eq.mpr c309
       (try (have c309n1 : (!(t460.toList == t462.toList)) = false := c309b1))
       clear c309
       by_cases c310 : (t468 != t470) = true
       ·rw [if_pos c310] at H
        have c310b0 : (t468 != t470) = true := c310
        (try (have c310b1 : decide (t468 = t470) = false := by simpa using c310))
        (try (have c310b2 : (t468 == t470) = false := by simpa using c310))
        (try (have c310b3 : ¬ (t468 = t470) := by simpa using c310))
        clear c310
        have H' := Aside0.mk H
        clear H
        go_wp2
        refine Met.intro (hJ_ _ _ ?mg_ ?rel)
        case mg_ => kernel_rfl
        case rel => exact ⟨_, (true), (by first | rfl | ((conv => lhs; whnf); first | rfl | (simp; done) | (simp [*]; done))), H', ⟨by have := HJ17.out; have := HJ148.out; have := HJ224.out; have := HJ245.out; first | omega | exact Nat.le_refl _⟩, ⟨by (with_reducible repeat (first | apply Kd.R_alloc | apply Kd.R_drewN | apply Kd.R_drew)); exact Kd.R_mono HO466.out (fun _ hk => hk.1.2)⟩, ⟨by (with_reducible repeat (first | apply Kd.R_alloc | apply Kd.R_drewN | apply Kd.R_drew)); exact Kd.R_mono HO475.out (fun _ hk => hk.1.2)⟩, ⟨by repeat (first | (with_reducible first | exact HB.out | apply below_alloc | apply pw_below_drewN | apply below_drew1) | exact HB.out)⟩⟩
       ·rw [if_neg c310] at H
        have c310b0 : (t468 != t470) = false := by simpa using c310
        (try (have c310b1 : decide (t468 = t470) = true := by simpa using c310))
        (try (have c310b2 : (t468 == t470) = true := by simpa using c310))
        clear c310
        (try (have c310e : t468 = t470 := by first | simpa using c310b0 | (simpa using (bne_eq_false_iff_eq.mp c310b0).symm)); (subst c310e))
        by_cases c311 : t467.toList = t469.toList
        ·rw [if_pos c311] at H
         have c311b0 : (t467.toList == t469.toList) = true := beq_iff_eq.mpr c311
         have c311b1 : (t467.toList != t469.toList) = false := bne_eq_false_iff_eq.mpr c311
         (try (have c311n1 : (!(t467.toList == t469.toList)) = false := c311b1))
         clear c311
         by_cases c312 : (t473 != t477) = true
         ·rw [if_pos c312] at H
          have c312b0 : (t473 != t477) = true := c312
          (try (have c312b1 : decide (t473 = t477) = false := by simpa using c312))
          (try (have c312b2 : (t473 == t477) = false := by simpa using c312))
          (try (have c312b3 : ¬ (t473 = t477) := by simpa using c312))
          clear c312
          have H' := Aside0.mk H
          clear H
          go_wp2
          refine Met.intro (hJ_ _ _ ?mg_ ?rel)
          case mg_ => kernel_rfl
          case rel => exact ⟨_, (true), (by first | rfl | ((conv => lhs; whnf); first | rfl | (simp; done) | (simp [*]; done))), H', ⟨by have := HJ17.out; have := HJ148.out; have := HJ224.out; have := HJ245.out; first | omega | exact Nat.le_refl _⟩, ⟨by (with_reducible repeat (first | apply Kd.R_alloc | apply Kd.R_drewN | apply Kd.R_drew)); exact Kd.R_mono HO466.out (fun _ hk => hk.1.2)⟩, ⟨by (with_reducible repeat (first | apply Kd.R_alloc | apply Kd.R_drewN | apply Kd.R_drew)); exact Kd.R_mono HO475.out (fun _ hk => hk.1.2)⟩, ⟨by repeat (first | (with_reducible first | exact HB.out | apply below_alloc | apply pw_below_drewN | apply below_drew1) | exact HB.out)⟩⟩
         ·rw [if_neg c312] at H
          have c312b0 : (t473 != t477) = false := by simpa using c312
          (try (have c312b1 : decide (t473 = t477) = true := by simpa using c312))
          (try (have c312b2 : (t473 == t477) = true := by simpa using c312))
          clear c312
          (try (have c312e : t473 = t477 := by first | simpa using c312b0 | (simpa using (bne_eq_false_iff_eq.mp c312b0).symm)); (subst c312e))
          replace H := Option.bind_eq_some_iff.mp H
          obtain ⟨t480, A3130, H⟩ := H
          try dsimp +instances only at H
          replace H := H
          have A313 := Aside0.mk A3130
          clear A3130
          by_cases c314 : t480 = true
          ·subst c314
           rw [if_pos rfl] at H
           have H1 := H
           clear H
           have H := H1
           clear H1
           by_cases c315 : (t457 != t453) = true
           ·rw [if_pos c315] at H
            have c315b0 : (t457 != t453) = true := c315
            (try (have c315b1 : decide (t457 = t453) = false := by simpa using c315))
            (try (have c315b2 : (t457 == t453) = false := by simpa using c315))
            (try (have c315b3 : ¬ (t457 = t453) := by simpa using c315))
            clear c315
            have H' := Aside0.mk H
            clear H
            obtain ⟨Ao316, co316, eo316⟩ := Kd.R_slice HO475.out
            subst eo316
            obtain ⟨Ao317, co317, eo317⟩ := Kd.R_slice HO479.out
            subst eo317
            go_wp2_with (first | (go_at_call 18; (with_reducible refine (laws_ySame.calls kj245 _ _ t472 _ _ t476 true _ ?side1 ?side2 ?side3 ?side4 A313.out).mono ?_); (case side1 => repeat (first | exact (Kd.R_reads' HO475.out).2.2 | (with_reducible refine Kd.C_alloc ?_ _) | (with_reducible refine Kd.C_drewN ?_ _) | (with_reducible refine Kd.C_drew ?_))); (case side2 => exact (Kd.R_reads' HO475.out).2.1); (case side3 => repeat (first | exact (Kd.R_reads' HO479.out).2.2 | (with_reducible refine Kd.C_alloc ?_ _) | (with_reducible refine Kd.C_drewN ?_ _) | (with_reducible refine Kd.C_drew ?_))); (case side4 => exact (Kd.R_reads' HO479.out).2.1); rintro e w' ⟨rfl, ⟨nd, rfl⟩⟩))
            refine Met.intro (hJ_ _ _ ?mg_ ?rel)
            case mg_ => kernel_rfl
            case rel => exact ⟨_, (true), (by first | rfl | ((conv => lhs; whnf); first | rfl | (simp; done) | (simp [*]; done))), H', ⟨by have := HJ17.out; have := HJ148.out; have := HJ224.out; have := HJ245.out; first | omega | exact Nat.le_refl _⟩, ⟨by (with_reducible repeat (first | apply Kd.R_alloc | apply Kd.R_drewN | apply Kd.R_drew)); exact Kd.R_mono HO466.out (fun _ hk => hk.1.2)⟩, ⟨by (with_reducible repeat (first | apply Kd.R_alloc | apply Kd.R_drewN | apply Kd.R_drew)); exact Kd.R_mono HO475.out (fun _ hk => hk.1.2)⟩, ⟨by repeat (first | (with_reducible first | exact HB.out | apply below_alloc | apply pw_below_drewN | apply below_drew1) | exact HB.out)⟩⟩
           ·rw [if_neg c315] at H
            have c315b0 : (t457 != t453) = false := by simpa using c315
            (try (have c315b1 : decide (t457 = t453) = true := by simpa using c315))
            (try (have c315b2 : (t457 == t453) = true := by simpa using c315))
            clear c315
            (try (have c315e : t453 = t457 := by first | simpa using c315b0 | (simpa using (bne_eq_false_iff_eq.mp c315b0).symm)); (subst c315e))
            have H' := Aside0.mk H
            clear H
            obtain ⟨Ao318, co318, eo318⟩ := Kd.R_slice HO475.out
            subst eo318
            obtain ⟨Ao319, co319, eo319⟩ := Kd.R_slice HO479.out
            subst eo319
            go_wp2_with (first | (go_at_call 18; (with_reducible refine (laws_ySame.calls kj245 _ _ t472 _ _ t476 true _ ?side1 ?side2 ?side3 ?side4 A313.out).mono ?_); (case side1 => repeat (first | exact (Kd.R_reads' HO475.out).2.2 | (with_reducible refine Kd.C_alloc ?_ _) | (with_reducible refine Kd.C_drewN ?_ _) | (with_reducible refine Kd.C_drew ?_))); (case side2 => exact (Kd.R_reads' HO475.out).2.1); (case side3 => repeat (first | exact (Kd.R_reads' HO479.out).2.2 | (with_reducible refine Kd.C_alloc ?_ _) | (with_reducible refine Kd.C_drewN ?_ _) | (with_reducible refine Kd.C_drew ?_))); (case side4 => exact (Kd.R_reads' HO479.out).2.1); rintro e w' ⟨rfl, ⟨nd, rfl⟩⟩))
            refine Met.intro (hJ_ _ _ ?mg_ ?rel)
            case mg_ => kernel_rfl
            case rel => exact ⟨_, ((t461 != t453)), (by first | rfl | ((conv => lhs; whnf); first | rfl | (simp; done) | (simp [*]; done))), H', ⟨by have := HJ17.out; have := HJ148.out; have := HJ224.out; have := HJ245.out; first | omega | exact Nat.le_refl _⟩, ⟨by (with_reducible repeat (first | apply Kd.R_alloc | apply Kd.R_drewN | apply Kd.R_drew)); exact Kd.R_mono HO466.out (fun _ hk => hk.1.2)⟩, ⟨by (with_reducible repeat (first | apply Kd.R_alloc | apply Kd.R_drewN | apply Kd.R_drew)); exact Kd.R_mono HO475.out (fun _ hk => hk.1.2)⟩, ⟨by repeat (first | (with_reducible first | exact HB.out | apply below_alloc | apply pw_below_drewN | apply below_drew1) | exact HB.out)⟩⟩
          ·replace c314 := Bool.eq_false_iff.mpr c314
           subst c314
           rw [if_neg (show ¬ (false = true) by decide)] at H
           have H1 := H
           clear H
           have H := H1
           clear H1
           have H' := Aside0.mk H
           clear H
           obtain ⟨Ao320, co320, eo320⟩ := Kd.R_slice HO475.out
           subst eo320
           obtain ⟨Ao321, co321, eo321⟩ := Kd.R_slice HO479.out
           subst eo321
           go_wp2_with (first | (go_at_call 18; (with_reducible refine (laws_ySame.calls kj245 _ _ t472 _ _ t476 false _ ?side1 ?side2 ?side3 ?side4 A313.out).mono ?_); (case side1 => repeat (first | exact (Kd.R_reads' HO475.out).2.2 | (with_reducible refine Kd.C_alloc ?_ _) | (with_reducible refine Kd.C_drewN ?_ _) | (with_reducible refine Kd.C_drew ?_))); (case side2 => exact (Kd.R_reads' HO475.out).2.1); (case side3 => repeat (first | exact (Kd.R_reads' HO479.out).2.2 | (with_reducible refine Kd.C_alloc ?_ _) | (with_reducible refine Kd.C_drewN ?_ _) | (with_reducible refine Kd.C_drew ?_))); (case side4 => exact (Kd.R_reads' HO479.out).2.1); rintro e w' ⟨rfl, ⟨nd, rfl⟩⟩))
           refine Met.intro (hJ_ _ _ ?mg_ ?rel)
           case mg_ => kernel_rfl
           case rel => exact ⟨_, (true), (by first | rfl | ((conv => lhs; whnf); first | rfl | (simp; done) | (simp [*]; done))), H', ⟨by have := HJ17.out; have := HJ148.out; have := HJ224.out; have := HJ245.out; first | omega | exact Nat.le_refl _⟩, ⟨by (with_reducible repeat (first | apply Kd.R_alloc | apply Kd.R_drewN | apply Kd.R_drew)); exact Kd.R_mono HO466.out (fun _ hk => hk.1.2)⟩, ⟨by (with_reducible repeat (first | apply Kd.R_alloc | apply Kd.R_drewN | apply Kd.R_drew)); exact Kd.R_mono HO475.out (fun _ hk => hk.1.2)⟩, ⟨by repeat (first | (with_reducible first | exact HB.out | apply below_alloc | apply pw_below_drewN | apply below_drew1) | exact HB.out)⟩⟩
        ·rw [if_neg c311] at H
         have c311b0 : (t467.toList == t469.toList) = false := beq_eq_false_iff_ne.mpr c311
         have c311b1 : (t467.toList != t469.toList) = true := bne_iff_ne.mpr c311
         (try (have c311n1 : (!(t467.toList == t469.toList)) = true := c311b1))
         have H' := Aside0.mk H
         clear H
         go_wp2
         refine Met.intro (hJ_ _ _ ?mg_ ?rel)
         case mg_ => kernel_rfl
         case rel => exact ⟨_, (true), (by first | rfl | ((conv => lhs; whnf); first | rfl | (simp; done) | (simp [*]; done))), H', ⟨by have := HJ17.out; have := HJ148.out; have := HJ224.out; have := HJ245.out; first | omega | exact Nat.le_refl _⟩, ⟨by (with_reducible repeat (first | apply Kd.R_alloc | apply Kd.R_drewN | apply Kd.R_drew)); exact Kd.R_mono HO466.out (fun _ hk => hk.1.2)⟩, ⟨by (with_reducible repeat (first | apply Kd.R_alloc | apply Kd.R_drewN | apply Kd.R_drew)); exact Kd.R_mono HO475.out (fun _ hk => hk.1.2)⟩, ⟨by repeat (first | (with_reducible first | exact HB.out | apply below_alloc | apply pw_below_drewN | apply below_drew1) | exact HB.out)⟩⟩
      ·rw [if_neg c309] at H
       have c309b0 : (t460.toList == t462.toList) = false := beq_eq_false_iff_ne.mpr c309
       have c309b1 : (t460.toList != t462.toList) = true := bne_iff_ne.mpr c309
       (try (have c309n1 : (!(t460.toList == t462.toList)) = true := c309b1))
       have H' := Aside0.mk H
       clear H
       go_wp2
       refine Met.intro (hJ_ _ _ ?mg_ ?rel)
       case mg_ => kernel_rfl
       case rel => exact ⟨_, (true), (by first | rfl | ((conv => lhs; whnf); first | rfl | (simp; done) | (simp [*]; done))), H', ⟨by have := HJ17.out; have := HJ148.out; have := HJ224.out; have := HJ245.out; first | omega | exact Nat.le_refl _⟩, ⟨by (with_reducible repeat (first | apply Kd.R_alloc | apply Kd.R_drewN | apply Kd.R_drew)); exact Kd.R_mono HO466.out (fun _ hk => hk.1.2)⟩, ⟨by (with_reducible repeat (first | apply Kd.R_alloc | apply Kd.R_drewN | apply Kd.R_drew)); exact Kd.R_mono HO475.out (fun _ hk => hk.1.2)⟩, ⟨by repeat (first | (with_reducible first | exact HB.out | apply below_alloc | apply pw_below_drewN | apply below_drew1) | exact HB.out)⟩⟩
    ·rw [if_neg c307] at H
     have c307b0 : (t456.toList == t458.toList) = false := beq_eq_false_iff_ne.mpr c307
     have c307b1 : (t456.toList != t458.toList) = true := bne_iff_ne.mpr c307
     (try (have c307n1 : (!(t456.toList == t458.toList)) = true := c307b1))
     have H' := Aside0.mk H
     clear H
     go_wp2
     refine Met.intro (hJ_ _ _ ?mg_ ?rel)
     case mg_ => kernel_rfl
     case rel => exact ⟨_, (true), (by first | rfl | ((conv => lhs; whnf); first | rfl | (simp; done) | (simp [*]; done))), H', ⟨by have := HJ17.out; have := HJ148.out; have := HJ224.out; have := HJ245.out; first | omega | exact Nat.le_refl _⟩, ⟨by (with_reducible repeat (first | apply Kd.R_alloc | apply Kd.R_drewN | apply Kd.R_drew)); exact Kd.R_mono HO466.out (fun _ hk => hk.1.2)⟩, ⟨by (with_reducible repeat (first | apply Kd.R_alloc | apply Kd.R_drewN | apply Kd.R_drew)); exact Kd.R_mono HO475.out (fun _ hk => hk.1.2)⟩, ⟨by repeat (first | (with_reducible first | exact HB.out | apply below_alloc | apply pw_below_drewN | apply below_drew1) | exact HB.out)⟩⟩
  ·rw [if_neg c305] at H
   have c305b0 : (t452 == t454) = false := beq_eq_false_iff_ne.mpr c305
   have c305b1 : (t452 != t454) = true := bne_iff_ne.mpr c305
   have H' := Aside0.mk H
   clear H
   go_wp2
   refine Met.intro (hJ_ _ _ ?mg_ ?rel)
   case mg_ => kernel_rfl
   case rel => exact ⟨_, (true), (by first | rfl | ((conv => lhs; whnf); first | rfl | (simp; done) | (simp [*]; done))), H', ⟨by have := HJ17.out; have := HJ148.out; have := HJ224.out; have := HJ245.out; first | omega | exact Nat.le_refl _⟩, ⟨by (with_reducible repeat (first | apply Kd.R_alloc | apply Kd.R_drewN | apply Kd.R_drew)); exact Kd.R_mono HO466.out (fun _ hk => hk.1.2)⟩, ⟨by (with_reducible repeat (first | apply Kd.R_alloc | apply Kd.R_drewN | apply Kd.R_drew)); exact Kd.R_mono HO475.out (fun _ hk => hk.1.2)⟩, ⟨by repeat (first | (with_reducible first | exact HB.out | apply below_alloc | apply pw_below_drewN | apply below_drew1) | exact HB.out)⟩⟩

def laws_FnWaysLead.c19 : PSigma fun P0_ : Prop => PSigma fun P1_ : Prop => Hole P0_ → Hole P1_ → laws_FnWaysLead.c17.2.1 := by
 refine' ⟨_, _, fun HP0_ HP1_ => _⟩
 rotate_left 2
 intro k A0 c0 l0 A1 c1 l1 r w HR0 HC0 HR1 HC1 A3 t387 t388 A5 t389 t390 A6 t393 t394 A7 t397 t398 A8 t399 t400 A9 t401 t402 A10 t403 t404 A11 t405 t406 A12 t409 t410 A13 t413 t414 A14 t415 t416 A15 t417 t418 A16 t421 t422 A17 _ _ _ w19 w20 v391 w21 v395 w22 _ w23 w24 w25 v407 w26 v411 w27 _ w28 v419 w29 v423 HO392 HO396 HO408 HO412 HO420 HO424 _ _ _ _ _ _ _ kj17 HJ17 _ _ HO_7 _ HO_27 _ kj148 HJ148 _ _ HO_19 _ kj224 HJ224 _ _ kj245 HJ245 t451 A280 t452 t453 A281 t454 t455 A282 t456 t457 A283 t458 t459 A284 t460 t461 A285 t462 t463 A286 t464 A287 t467 t468 A288 t469 t470 A289 t471 A290 t472 t473 A291 t476 t477 A292 HC293 w294 w295 _ w296 _ w297 _ w298 Ao299 co299 w300 nd w301 w302 v474 w303 v478 HO466 HO475 HO479 HB _ _ _ _ f_ wc u553 hcut
 clear HC293
 try clear c1
 try clear c2
 try clear p2
 try clear c3
 try clear p4
 try clear q4
 try clear hx4
 try clear p6
 try clear c8
 try clear c22
 try clear c23
 try clear c24
 try clear c25
 try clear c26
 try clear c27
 try clear c28
 try clear c29
 try clear c30
 try clear c31
 try clear c32
 try clear c33
 try clear c34
 try clear p44
 try clear q44
 try clear hx44
 try clear p64
 try clear c247
 try clear c262
 try clear c264
 try clear c264b0
 try clear c265
 try clear c265b0
 try clear c266
 try clear c266b0
 try clear c267
 try clear c267b0
 try clear c269
 try clear c270
 try clear c270b0
 try clear c270b1
 try clear c304
 try clear c304b0
 try clear c304b1
 try clear c304b2
 try clear c305
 try clear c305b0
 try clear c305b1
 try clear c306
 try clear c306b0
 try clear c306b1
 try clear c306b2
 try clear c307
 try clear c307b0
 try clear c307b1
 try clear c308
 try clear c308b0
 try clear c308b1
 try clear c308b2
 try clear c309
 try clear c309b0
 try clear c309b1
 try clear c310
 try clear c310b0
 try clear c310b1
 try clear c310b2
 try clear c311
 try clear c311b0
 try clear c311b1
 try clear c312
 try clear c312b0
 try clear c312b1
 try clear c312b2
 try clear c314
 try clear c315
 try clear c315b0
 try clear c315b1
 try clear c315b2
 try clear hx447_0
 try clear hx448_0
 try clear p2
 try clear p4
 try clear p44
 try clear p445
 try clear p446
 try clear p447
 try clear p448
 try clear p6
 try clear p64
 try clear q4
 try clear q44
 try clear q442
 try clear q443
 try clear q444
 try clear q445
 try clear q446
 try clear q447
 try clear q448
 obtain ⟨kq, x553_292, rfl, HA, HJ292, HO_62, HO_68, HB⟩ := hcut
 cases kq with
 | zero => exact absurd HA.out (by simp [laws_FnWaysLead.j10])
 | succ kj292 =>
  have H := HA.out
  clear HA
  simp only [laws_FnWaysLead.j10] at H
  by_cases c322 : x553_292 = true
  ·subst c322
   rw [if_pos rfl] at H
   have H1 := H
   clear H
   have H := H1
   clear H1
   obtain rfl := Option.some.inj H
   go_wp2
   go_ret
   exact ⟨by first | rfl | (simp [errW_none, errW_some] <;> rfl) | (simp [*, errW_none, errW_some] <;> rfl), by repeat (first | (with_reducible first | exact HB.out | apply below_alloc | apply pw_below_drewN | apply below_drew1) | exact HB.out)⟩
  ·replace c322 := Bool.eq_false_iff.mpr c322
   subst c322
   rw [if_neg (show ¬ (false = true) by decide)] at H
   have H1 := H
   clear H
   have H := H1
   clear H1
   have HC323 := Aside0.mk H
   clear H
   go_upto_if 554 with (fail)
   refine wp_cutF [o_,o_,o_,o_,i_,o_,o_,o_,o_,o_,o_,o_,o_,o_,o_,o_,o_,o_,o_,o_,o_,o_,o_,o_,o_,o_,o_,o_,o_,o_,o_,o_,o_,o_,o_,o_,o_,o_,o_,o_,o_,o_,o_,o_,o_,o_,o_,o_,o_,o_,o_,o_,o_,o_,o_,o_,o_,o_,o_,o_,o_,o_,o_,o_,o_,o_,o_,o_,o_,o_,o_,o_,i_,i_,i_,i_,o_,o_,o_,o_,i_,i_,i_,i_,i_,i_,i_,i_,i_,i_,i_,i_,i_,i_,i_,i_,i_,i_,i_,i_,i_,i_,i_,i_,i_,i_,i_,i_,i_,i_,i_,i_,i_,i_,i_,i_,i_,i_,i_,i_,i_,i_,i_,i_,i_,i_,i_,i_,i_,i_,i_,i_,i_,i_,i_,i_,i_,i_,i_,i_,i_,i_,i_,i_,i_,i_,i_,i_,i_,i_,i_,i_,i_,i_,i_,i_,i_,i_,i_,i_,i_,i_,i_,i_,i_,i_,i_,i_,i_,i_,i_,i_,i_,i_,i_,i_,i_,i_,i_,i_,i_,i_,i_,i_,i_,i_,i_,i_,i_,i_,i_,i_,i_,i_,i_,i_,i_,i_,i_,i_,i_,i_,i_,i_,i_,i_,i_,i_,i_,i_,i_,i_,i_,i_,i_,i_,i_,i_,i_,i_,i_,i_,i_,i_,i_,i_,i_,i_,i_,i_,i_,i_,i_,i_,i_,i_,i_,i_,i_,i_,i_,i_,i_,i_,i_,i_,i_,i_,i_,i_,i_,i_,i_,i_,i_,i_,i_,i_,i_,i_,i_,i_,i_,i_,i_,i_,i_,i_,i_,i_,i_,i_,i_,i_,i_,i_,i_,i_,i_,i_,i_,i_,i_,i_,i_,i_,i_,i_,i_,i_,i_,i_,i_,i_,i_,i_,i_,i_,i_,i_,i_,i_,i_,i_,i_,i_,i_,i_,i_,i_,i_,i_,i_,i_,i_,i_,i_,i_,i_,i_,i_,i_,i_,i_,i_,i_,i_,i_,i_,i_,i_,i_,i_,i_,i_,i_,i_,i_,i_,i_,i_,i_,i_,i_,i_,i_,i_,i_,i_,i_,i_,i_,i_,i_,i_,i_,i_,i_,i_,i_,i_,i_,i_,i_,i_,i_,o_,o_,o_,i_,i_,i_,i_,o_,o_,o_,i_,i_,i_,i_,i_,i_,i_,i_,i_,i_,i_,i_,i_,i_,i_,i_,i_,i_,i_,i_,i_,i_,i_,i_,i_,i_,i_,i_,i_,i_,i_,i_,i_,i_,i_,i_,i_,i_,i_,i_,i_,i_,i_,i_,i_,i_,i_,i_,i_,i_,i_,i_,i_,i_,i_,i_,i_,i_,i_,i_,i_,i_,i_,i_,i_,i_,i_,i_,i_,i_,i_,i_,i_,i_,i_,i_,i_,i_,i_,i_,i_,i_,i_,i_,i_,i_,i_,i_,i_,i_,i_,i_,i_,i_,i_,i_,i_,i_,i_,i_,i_,i_,i_,i_,i_,i_,i_,i_,i_,i_,i_,i_,i_,i_,i_,i_,i_,i_,i_,i_,i_,i_,i_,i_,i_,i_,i_,i_,i_,i_,i_,i_,i_,i_,i_,i_,i_,i_,i_,i_,i_,i_,i_,i_,i_,i_,i_,i_,i_,i_,i_,i_,i_,i_,i_,i_,i_,i_,i_,i_,i_,i_,i_,i_,i_,i_,i_,i_,i_,i_,i_,i_,i_,i_,i_,i_,i_,i_,i_,i_,i_,i_,i_,i_,i_,i_,i_,i_,i_,i_,i_,i_,i_,i_,i_,i_,i_,i_,i_,i_,i_,i_,i_,i_,i_,i_,i_,i_,i_,i_,i_,i_,i_,i_,i_,i_,i_,i_,i_,i_,i_,i_,i_,i_,i_,i_,i_,i_,i_,i_,i_,i_,i_,i_,i_,i_,i_,i_,i_,i_,i_] (fun f_ wc => ∃ (kq : Nat), Aside0 (laws_FnWaysLead.j11 kq t464 t467 t468 t471 t472 t473 = some r) ∧ Aside0 (kq ≤ kj292) ∧ Aside0 (Kd.R (Kd.int .i64) 3 wc w.heap.size (fun k_ => some k_ ≠ (v474 : Value).ownBlock) (.slice Ao299 t464.length co299) t464) ∧ Aside0 (Kd.R (Kd.int .i64) 3 wc w.heap.size (fun k_ => some k_ ≠ ((.slice Ao299 t464.length co299) : Value).ownBlock) v474 t472) ∧ Aside0 (Below w.heap.size w wc)) ?rest ?first
   case first =>
    intro J_ K_ hJ_ hK_
    repeat revert ‹_›
    intro HP0_ HP1_
    exact HP0_.out
   case rest =>
    intro f_ wc hcut
    dsimp only [maskF] at hcut ⊢
    repeat revert ‹_›
    intro HP0_ HP1_
    exact HP1_.out

theorem laws_FnWaysLead.c20 : laws_FnWaysLead.c19.1 := by
 intro k A0 c0 l0 A1 c1 l1 r w HR0 HC0 HR1 HC1 A3 t387 t388 A5 t389 t390 A6 t393 t394 A7 t397 t398 A8 t399 t400 A9 t401 t402 A10 t403 t404 A11 t405 t406 A12 t409 t410 A13 t413 t414 A14 t415 t416 A15 t417 t418 A16 t421 t422 A17 _ _ _ w19 w20 v391 w21 v395 w22 _ w23 w24 w25 v407 w26 v411 w27 _ w28 v419 w29 v423 HO392 HO396 HO408 HO412 HO420 HO424 _ _ _ _ _ _ _ kj17 HJ17 _ _ HO_7 _ HO_27 _ kj148 HJ148 _ _ HO_19 _ kj224 HJ224 _ _ kj245 HJ245 t451 A280 t452 t453 A281 t454 t455 A282 t456 t457 A283 t458 t459 A284 t460 t461 A285 t462 t463 A286 t464 A287 t467 t468 A288 t469 t470 A289 t471 A290 t472 t473 A291 t476 t477 A292 w294 w295 _ w296 _ w297 _ w298 Ao299 co299 w300 nd w301 w302 v474 w303 v478 HO466 HO475 HO479 _ f_ wc HO_62 HO_68 HB kj292 HJ292 HC323 _ _ J_ K_ hJ_ hK_
 have H := HC323.out
 clear HC323
 by_cases c324 : t453 = true
 ·subst c324
  rw [if_pos rfl] at H
  have H1 := H
  clear H
  have H := H1
  clear H1
  replace H := Option.bind_eq_some_iff.mp H
  obtain ⟨⟨t481, t482⟩, A3250, H⟩ := H
  try dsimp +instances only at H
  replace H := H
  have A325 := Aside0.mk A3250
  clear A3250
  replace H := Option.bind_eq_some_iff.mp H
  obtain ⟨⟨t483, t484⟩, A3260, H⟩ := H
  try dsimp +instances only at H
  replace H := H
  have A326 := Aside0.mk A3260
  clear A3260
  by_cases c327 : t482 = true
  ·subst c327
   rw [if_pos rfl] at H
   have H1 := H
   clear H
   have H := H1
   clear H1
   by_cases c328 : t481 = t452
   ·rw [if_pos c328] at H
    have c328b0 : (t481 == t452) = true := beq_iff_eq.mpr c328
    have c328b1 : (t481 != t452) = false := bne_eq_false_iff_eq.mpr c328
    clear c328
    (first | rw [c328b0] | (simp only [i64_w, i32_w]; rw [c328b0]) | skip)
    by_cases c329 : t484 = true
    ·subst c329
     rw [if_pos rfl] at H
     have H1 := H
     clear H
     have H := H1
     clear H1
     by_cases c330 : 0 ≤ t451
     ·rw [if_pos c330] at H
      have c330b0 := eq_true c330
      have c330b1 : decide (0 ≤ t451) = true := decide_eq_true c330
      clear c330
      obtain ⟨ji331, hji331⟩ : ∃ j_ : Int, (shl .i64 1 t451) = j_ := ⟨_, rfl⟩
      replace H : (if t483 = (wrap64 ((ji331) - 1)) then (if 0 ≤ (wrap64 (t451 + 1)) then (if t452 = (wrap64 (Int.tdiv (shl .i64 1 (wrap64 (t451 + 1))) 3)) then (laws_FnWaysLead.j11 kj292 t464 t467 t468 t471 t472 t473) else (some false)) else (none)) else (some false)) = some r := by first | (rw [hji331] at H; exact H) | (simp only [hji331] at H ⊢; exact H)
      (try rw [hji331] at A325)
      (try rw [hji331] at A326)
      have hji331_ : (IntKind.i64.wrap (1 * 2 ^ min t451.toNat 64)) = ji331 := hji331
      have hji331z : t451 ≤ 64 → (IntKind.i64.wrap (1 * 2 ^ t451.toNat)) = ji331 := shl_small hji331
      have hji331u : (IntKind.i64.wrap (2 ^ min t451.toNat 64)) = ji331 := by have h_ := hji331_; rw [Int.one_mul] at h_; exact h_
      have hji331v : t451 ≤ 64 → (IntKind.i64.wrap (2 ^ t451.toNat)) = ji331 := fun hle_ => by have h_ := hji331z hle_; rw [Int.one_mul] at h_; exact h_
      have hji331y : (wrap64 (1 * 2 ^ min t451.toNat 64)) = ji331 := (i64_w _).symm.trans hji331_
      have hji331x : t451 ≤ 64 → (wrap64 (1 * 2 ^ t451.toNat)) = ji331 := fun h_ => (i64_w _).symm.trans (hji331z h_)
      by_cases c332 : t483 = (wrap64 ((ji331) - 1))
      ·rw [if_pos c332] at H
       have c332b0 : (t483 == (wrap64 ((ji331) - 1))) = true := beq_iff_eq.mpr c332
       have c332b1 : (t483 != (wrap64 ((ji331) - 1))) = false := bne_eq_false_iff_eq.mpr c332
       clear c332
       obtain ⟨ji333, hji333⟩ : ∃ j_ : Int, (wrap64 (t451 + 1)) = j_ := ⟨_, rfl⟩
       replace H : (if 0 ≤ (ji333) then (if t452 = (wrap64 (Int.tdiv (shl .i64 1 (ji333)) 3)) then (laws_FnWaysLead.j11 kj292 t464 t467 t468 t471 t472 t473) else (some false)) else (none)) = some r := by first | (rw [hji333] at H; exact H) | (simp only [hji333] at H ⊢; exact H)
       (try rw [hji333] at A325)
       (try rw [hji333] at A326)
       have hji333w : (IntKind.i64.wrap (t451 + 1)) = ji333 := (i64_w _).trans hji333
       by_cases c334 : 0 ≤ (ji333)
       ·rw [if_pos c334] at H
        have c334b0 := eq_true c334
        have c334b1 : decide (0 ≤ (ji333)) = true := decide_eq_true c334
        clear c334
        obtain ⟨ji335, hji335⟩ : ∃ j_ : Int, (shl .i64 1 (ji333)) = j_ := ⟨_, rfl⟩
        replace H : (if t452 = (wrap64 (Int.tdiv (ji335) 3)) then (laws_FnWaysLead.j11 kj292 t464 t467 t468 t471 t472 t473) else (some false)) = some r := by first | (rw [hji335] at H; exact H) | (simp only [hji335] at H ⊢; exact H)
        (try rw [hji335] at A325)
        (try rw [hji335] at A326)
        have hji335_ : (IntKind.i64.wrap (1 * 2 ^ min (ji333).toNat 64)) = ji335 := hji335
        have hji335z : (ji333) ≤ 64 → (IntKind.i64.wrap (1 * 2 ^ (ji333).toNat)) = ji335 := shl_small hji335
        have hji335u : (IntKind.i64.wrap (2 ^ min (ji333).toNat 64)) = ji335 := by have h_ := hji335_; rw [Int.one_mul] at h_; exact h_
        have hji335v : (ji333) ≤ 64 → (IntKind.i64.wrap (2 ^ (ji333).toNat)) = ji335 := fun hle_ => by have h_ := hji335z hle_; rw [Int.one_mul] at h_; exact h_
        have hji335y : (wrap64 (1 * 2 ^ min (ji333).toNat 64)) = ji335 := (i64_w _).symm.trans hji335_
        have hji335x : (ji333) ≤ 64 → (wrap64 (1 * 2 ^ (ji333).toNat)) = ji335 := fun h_ => (i64_w _).symm.trans (hji335z h_)
        by_cases c336 : t452 = (wrap64 (Int.tdiv (ji335) 3))
        ·rw [if_pos c336] at H
         have c336b0 : (t452 == (wrap64 (Int.tdiv (ji335) 3))) = true := beq_iff_eq.mpr c336
         have c336b1 : (t452 != (wrap64 (Int.tdiv (ji335) 3))) = false := bne_eq_false_iff_eq.mpr c336
         clear c336
         have H' := Aside0.mk H
         clear H
         go_wp2_with (first | ((with_reducible refine gate_callee (f := 35) rfl ?_); refine goesL_ (some 557) rfl rfl Tryz.func35 (by kernel_rfl) rfl #[.string t456] rfl (by (try simp only [List.map_toArray, List.map_cons, List.map_nil]); first | done | rfl | (simp only [List.length_drop, List.length_take]; rfl)) ?_; (with_reducible refine (impl_NumberOfState.calls kj292 t456 t481 true _ A325.out).mono ?_); rintro e w337 ⟨rfl, hb⟩; refine ⟨_, rfl, ?_⟩; have n0_ := Aside0.mk (Kd.R_below (by (with_reducible repeat (first | apply Kd.R_alloc | apply Kd.R_drewN | apply Kd.R_drew)); exact HO_62.out) hb); have n1_ := Aside0.mk (Kd.R_below (by (with_reducible repeat (first | apply Kd.R_alloc | apply Kd.R_drewN | apply Kd.R_drew)); exact HO_68.out) hb); have n2_ := Aside0.mk (below_step (by repeat (first | (with_reducible first | exact HB.out | apply below_alloc | apply pw_below_drewN | apply below_drew1) | exact HB.out)) hb); clear HO_62; clear HO_68; clear HB; have HO_62 := n0_; have HO_68 := n1_; have HB := n2_; clear n0_ n1_ n2_; (try clear hb); (try clear hb2); (try clear hk); (try clear hi)) | ((with_reducible refine gate_callee (f := 35) rfl ?_); refine goesL_ (some 562) rfl rfl Tryz.func35 (by kernel_rfl) rfl #[.string t460] rfl (by (try simp only [List.map_toArray, List.map_cons, List.map_nil]); first | done | rfl | (simp only [List.length_drop, List.length_take]; rfl)) ?_; (with_reducible refine (impl_NumberOfState.calls kj292 t460 t483 true _ A326.out).mono ?_); rintro e w338 ⟨rfl, hb⟩; refine ⟨_, rfl, ?_⟩; have n0_ := Aside0.mk (Kd.R_below (by (with_reducible repeat (first | apply Kd.R_alloc | apply Kd.R_drewN | apply Kd.R_drew)); exact HO_62.out) hb); have n1_ := Aside0.mk (Kd.R_below (by (with_reducible repeat (first | apply Kd.R_alloc | apply Kd.R_drewN | apply Kd.R_drew)); exact HO_68.out) hb); have n2_ := Aside0.mk (below_step (by repeat (first | (with_reducible first | exact HB.out | apply below_alloc | apply pw_below_drewN | apply below_drew1) | exact HB.out)) hb); clear HO_62; clear HO_68; clear HB; have HO_62 := n0_; have HO_68 := n1_; have HB := n2_; clear n0_ n1_ n2_; (try clear hb); (try clear hb2); (try clear hk); (try clear hi)))
         refine Met.intro (hJ_ _ _ ?mg_ ?rel)
         case mg_ => kernel_rfl
         case rel => exact ⟨_, H', ⟨by have := HJ17.out; have := HJ148.out; have := HJ224.out; have := HJ245.out; have := HJ292.out; first | omega | exact Nat.le_refl _⟩, ⟨by (with_reducible repeat (first | apply Kd.R_alloc | apply Kd.R_drewN | apply Kd.R_drew)); exact HO_62.out⟩, ⟨by (with_reducible repeat (first | apply Kd.R_alloc | apply Kd.R_drewN | apply Kd.R_drew)); exact HO_68.out⟩, ⟨by repeat (first | (with_reducible first | exact HB.out | apply below_alloc | apply pw_below_drewN | apply below_drew1) | exact HB.out)⟩⟩
        ·rw [if_neg c336] at H
         have c336b0 : (t452 == (wrap64 (Int.tdiv (ji335) 3))) = false := beq_eq_false_iff_ne.mpr c336
         have c336b1 : (t452 != (wrap64 (Int.tdiv (ji335) 3))) = true := bne_iff_ne.mpr c336
         obtain rfl := Option.some.inj H
         go_wp2_with (first | ((with_reducible refine gate_callee (f := 35) rfl ?_); refine goesL_ (some 557) rfl rfl Tryz.func35 (by kernel_rfl) rfl #[.string t456] rfl (by (try simp only [List.map_toArray, List.map_cons, List.map_nil]); first | done | rfl | (simp only [List.length_drop, List.length_take]; rfl)) ?_; (with_reducible refine (impl_NumberOfState.calls kj292 t456 t481 true _ A325.out).mono ?_); rintro e w339 ⟨rfl, hb⟩; refine ⟨_, rfl, ?_⟩; have n0_ := Aside0.mk (Kd.R_below (by (with_reducible repeat (first | apply Kd.R_alloc | apply Kd.R_drewN | apply Kd.R_drew)); exact HO_62.out) hb); have n1_ := Aside0.mk (Kd.R_below (by (with_reducible repeat (first | apply Kd.R_alloc | apply Kd.R_drewN | apply Kd.R_drew)); exact HO_68.out) hb); have n2_ := Aside0.mk (below_step (by repeat (first | (with_reducible first | exact HB.out | apply below_alloc | apply pw_below_drewN | apply below_drew1) | exact HB.out)) hb); clear HO_62; clear HO_68; clear HB; have HO_62 := n0_; have HO_68 := n1_; have HB := n2_; clear n0_ n1_ n2_; (try clear hb); (try clear hb2); (try clear hk); (try clear hi)) | ((with_reducible refine gate_callee (f := 35) rfl ?_); refine goesL_ (some 562) rfl rfl Tryz.func35 (by kernel_rfl) rfl #[.string t460] rfl (by (try simp only [List.map_toArray, List.map_cons, List.map_nil]); first | done | rfl | (simp only [List.length_drop, List.length_take]; rfl)) ?_; (with_reducible refine (impl_NumberOfState.calls kj292 t460 t483 true _ A326.out).mono ?_); rintro e w340 ⟨rfl, hb⟩; refine ⟨_, rfl, ?_⟩; have n0_ := Aside0.mk (Kd.R_below (by (with_reducible repeat (first | apply Kd.R_alloc | apply Kd.R_drewN | apply Kd.R_drew)); exact HO_62.out) hb); have n1_ := Aside0.mk (Kd.R_below (by (with_reducible repeat (first | apply Kd.R_alloc | apply Kd.R_drewN | apply Kd.R_drew)); exact HO_68.out) hb); have n2_ := Aside0.mk (below_step (by repeat (first | (with_reducible first | exact HB.out | apply below_alloc | apply pw_below_drewN | apply below_drew1) | exact HB.out)) hb); clear HO_62; clear HO_68; clear HB; have HO_62 := n0_; have HO_68 := n1_; have HB := n2_; clear n0_ n1_ n2_; (try clear hb); (try clear hb2); (try clear hk); (try clear hi)))
         go_ret
         exact ⟨by first | rfl | (simp [errW_none, errW_some] <;> rfl) | (simp only [← hji331, ← hji333, ← hji335]; first | rfl | (simp [errW_none, errW_some] <;> rfl)) | (simp [*, errW_none, errW_some] <;> rfl), by repeat (first | (with_reducible first | exact HB.out | apply below_alloc | apply pw_below_drewN | apply below_drew1) | exact HB.out)⟩
       ·rw [if_neg c334] at H
        exact absurd H (by simp)
      ·rw [if_neg c332] at H
       have c332b0 : (t483 == (wrap64 ((ji331) - 1))) = false := beq_eq_false_iff_ne.mpr c332
       have c332b1 : (t483 != (wrap64 ((ji331) - 1))) = true := bne_iff_ne.mpr c332
       obtain rfl := Option.some.inj H
       go_wp2_with (first | ((with_reducible refine gate_callee (f := 35) rfl ?_); refine goesL_ (some 557) rfl rfl Tryz.func35 (by kernel_rfl) rfl #[.string t456] rfl (by (try simp only [List.map_toArray, List.map_cons, List.map_nil]); first | done | rfl | (simp only [List.length_drop, List.length_take]; rfl)) ?_; (with_reducible refine (impl_NumberOfState.calls kj292 t456 t481 true _ A325.out).mono ?_); rintro e w341 ⟨rfl, hb⟩; refine ⟨_, rfl, ?_⟩; have n0_ := Aside0.mk (Kd.R_below (by (with_reducible repeat (first | apply Kd.R_alloc | apply Kd.R_drewN | apply Kd.R_drew)); exact HO_62.out) hb); have n1_ := Aside0.mk (Kd.R_below (by (with_reducible repeat (first | apply Kd.R_alloc | apply Kd.R_drewN | apply Kd.R_drew)); exact HO_68.out) hb); have n2_ := Aside0.mk (below_step (by repeat (first | (with_reducible first | exact HB.out | apply below_alloc | apply pw_below_drewN | apply below_drew1) | exact HB.out)) hb); clear HO_62; clear HO_68; clear HB; have HO_62 := n0_; have HO_68 := n1_; have HB := n2_; clear n0_ n1_ n2_; (try clear hb); (try clear hb2); (try clear hk); (try clear hi)) | ((with_reducible refine gate_callee (f := 35) rfl ?_); refine goesL_ (some 562) rfl rfl Tryz.func35 (by kernel_rfl) rfl #[.string t460] rfl (by (try simp only [List.map_toArray, List.map_cons, List.map_nil]); first | done | rfl | (simp only [List.length_drop, List.length_take]; rfl)) ?_; (with_reducible refine (impl_NumberOfState.calls kj292 t460 t483 true _ A326.out).mono ?_); rintro e w342 ⟨rfl, hb⟩; refine ⟨_, rfl, ?_⟩; have n0_ := Aside0.mk (Kd.R_below (by (with_reducible repeat (first | apply Kd.R_alloc | apply Kd.R_drewN | apply Kd.R_drew)); exact HO_62.out) hb); have n1_ := Aside0.mk (Kd.R_below (by (with_reducible repeat (first | apply Kd.R_alloc | apply Kd.R_drewN | apply Kd.R_drew)); exact HO_68.out) hb); have n2_ := Aside0.mk (below_step (by repeat (first | (with_reducible first | exact HB.out | apply below_alloc | apply pw_below_drewN | apply below_drew1) | exact HB.out)) hb); clear HO_62; clear HO_68; clear HB; have HO_62 := n0_; have HO_68 := n1_; have HB := n2_; clear n0_ n1_ n2_; (try clear hb); (try clear hb2); (try clear hk); (try clear hi)))
       go_ret
       exact ⟨by first | rfl | (simp [errW_none, errW_some] <;> rfl) | (simp only [← hji331]; first | rfl | (simp [errW_none, errW_some] <;> rfl)) | (simp [*, errW_none, errW_some] <;> rfl), by repeat (first | (with_reducible first | exact HB.out | apply below_alloc | apply pw_below_drewN | apply below_drew1) | exact HB.out)⟩
     ·rw [if_neg c330] at H
      exact absurd H (by simp)
    ·replace c329 := Bool.eq_false_iff.mpr c329
     subst c329
     rw [if_neg (show ¬ (false = true) by decide)] at H
     have H1 := H
     clear H
     have H := H1
     clear H1
     obtain rfl := Option.some.inj H
     go_wp2_with (first | ((with_reducible refine gate_callee (f := 35) rfl ?_); refine goesL_ (some 557) rfl rfl Tryz.func35 (by kernel_rfl) rfl #[.string t456] rfl (by (try simp only [List.map_toArray, List.map_cons, List.map_nil]); first | done | rfl | (simp only [List.length_drop, List.length_take]; rfl)) ?_; (with_reducible refine (impl_NumberOfState.calls kj292 t456 t481 true _ A325.out).mono ?_); rintro e w343 ⟨rfl, hb⟩; refine ⟨_, rfl, ?_⟩; have n0_ := Aside0.mk (Kd.R_below (by (with_reducible repeat (first | apply Kd.R_alloc | apply Kd.R_drewN | apply Kd.R_drew)); exact HO_62.out) hb); have n1_ := Aside0.mk (Kd.R_below (by (with_reducible repeat (first | apply Kd.R_alloc | apply Kd.R_drewN | apply Kd.R_drew)); exact HO_68.out) hb); have n2_ := Aside0.mk (below_step (by repeat (first | (with_reducible first | exact HB.out | apply below_alloc | apply pw_below_drewN | apply below_drew1) | exact HB.out)) hb); clear HO_62; clear HO_68; clear HB; have HO_62 := n0_; have HO_68 := n1_; have HB := n2_; clear n0_ n1_ n2_; (try clear hb); (try clear hb2); (try clear hk); (try clear hi)) | ((with_reducible refine gate_callee (f := 35) rfl ?_); refine goesL_ (some 562) rfl rfl Tryz.func35 (by kernel_rfl) rfl #[.string t460] rfl (by (try simp only [List.map_toArray, List.map_cons, List.map_nil]); first | done | rfl | (simp only [List.length_drop, List.length_take]; rfl)) ?_; (with_reducible refine (impl_NumberOfState.calls kj292 t460 t483 false _ A326.out).mono ?_); rintro e w344 ⟨rfl, hb⟩; refine ⟨_, rfl, ?_⟩; have n0_ := Aside0.mk (Kd.R_below (by (with_reducible repeat (first | apply Kd.R_alloc | apply Kd.R_drewN | apply Kd.R_drew)); exact HO_62.out) hb); have n1_ := Aside0.mk (Kd.R_below (by (with_reducible repeat (first | apply Kd.R_alloc | apply Kd.R_drewN | apply Kd.R_drew)); exact HO_68.out) hb); have n2_ := Aside0.mk (below_step (by repeat (first | (with_reducible first | exact HB.out | apply below_alloc | apply pw_below_drewN | apply below_drew1) | exact HB.out)) hb); clear HO_62; clear HO_68; clear HB; have HO_62 := n0_; have HO_68 := n1_; have HB := n2_; clear n0_ n1_ n2_; (try clear hb); (try clear hb2); (try clear hk); (try clear hi)))
     go_ret
     exact ⟨by first | rfl | (simp [errW_none, errW_some] <;> rfl) | (simp [*, errW_none, errW_some] <;> rfl), by repeat (first | (with_reducible first | exact HB.out | apply below_alloc | apply pw_below_drewN | apply below_drew1) | exact HB.out)⟩
   ·rw [if_neg c328] at H
    have c328b0 : (t481 == t452) = false := beq_eq_false_iff_ne.mpr c328
    have c328b1 : (t481 != t452) = true := bne_iff_ne.mpr c328
    (first | rw [c328b0] | (simp only [i64_w, i32_w]; rw [c328b0]) | skip)
    obtain rfl := Option.some.inj H
    go_wp2_with (first | ((with_reducible refine gate_callee (f := 35) rfl ?_); refine goesL_ (some 557) rfl rfl Tryz.func35 (by kernel_rfl) rfl #[.string t456] rfl (by (try simp only [List.map_toArray, List.map_cons, List.map_nil]); first | done | rfl | (simp only [List.length_drop, List.length_take]; rfl)) ?_; (with_reducible refine (impl_NumberOfState.calls kj292 t456 t481 true _ A325.out).mono ?_); rintro e w345 ⟨rfl, hb⟩; refine ⟨_, rfl, ?_⟩; have n0_ := Aside0.mk (Kd.R_below (by (with_reducible repeat (first | apply Kd.R_alloc | apply Kd.R_drewN | apply Kd.R_drew)); exact HO_62.out) hb); have n1_ := Aside0.mk (Kd.R_below (by (with_reducible repeat (first | apply Kd.R_alloc | apply Kd.R_drewN | apply Kd.R_drew)); exact HO_68.out) hb); have n2_ := Aside0.mk (below_step (by repeat (first | (with_reducible first | exact HB.out | apply below_alloc | apply pw_below_drewN | apply below_drew1) | exact HB.out)) hb); clear HO_62; clear HO_68; clear HB; have HO_62 := n0_; have HO_68 := n1_; have HB := n2_; clear n0_ n1_ n2_; (try clear hb); (try clear hb2); (try clear hk); (try clear hi)) | ((with_reducible refine gate_callee (f := 35) rfl ?_); refine goesL_ (some 562) rfl rfl Tryz.func35 (by kernel_rfl) rfl #[.string t460] rfl (by (try simp only [List.map_toArray, List.map_cons, List.map_nil]); first | done | rfl | (simp only [List.length_drop, List.length_take]; rfl)) ?_; (with_reducible refine (impl_NumberOfState.calls kj292 t460 t483 t484 _ A326.out).mono ?_); rintro e w346 ⟨rfl, hb⟩; refine ⟨_, rfl, ?_⟩; have n0_ := Aside0.mk (Kd.R_below (by (with_reducible repeat (first | apply Kd.R_alloc | apply Kd.R_drewN | apply Kd.R_drew)); exact HO_62.out) hb); have n1_ := Aside0.mk (Kd.R_below (by (with_reducible repeat (first | apply Kd.R_alloc | apply Kd.R_drewN | apply Kd.R_drew)); exact HO_68.out) hb); have n2_ := Aside0.mk (below_step (by repeat (first | (with_reducible first | exact HB.out | apply below_alloc | apply pw_below_drewN | apply below_drew1) | exact HB.out)) hb); clear HO_62; clear HO_68; clear HB; have HO_62 := n0_; have HO_68 := n1_; have HB := n2_; clear n0_ n1_ n2_; (try clear hb); (try clear hb2); (try clear hk); (try clear hi)))
    go_ret
    exact ⟨by first | rfl | (simp [errW_none, errW_some] <;> rfl) | (simp [*, errW_none, errW_some] <;> rfl), by repeat (first | (with_reducible first | exact HB.out | apply below_alloc | apply pw_below_drewN | apply below_drew1) | exact HB.out)⟩
  ·replace c327 := Bool.eq_false_iff.mpr c327
   subst c327
   rw [if_neg (show ¬ (false = true) by decide)] at H
   have H1 := H
   clear H
   have H := H1
   clear H1
   obtain rfl := Option.some.inj H
   go_wp2_with (first | ((with_reducible refine gate_callee (f := 35) rfl ?_); refine goesL_ (some 557) rfl rfl Tryz.func35 (by kernel_rfl) rfl #[.string t456] rfl (by (try simp only [List.map_toArray, List.map_cons, List.map_nil]); first | done | rfl | (simp only [List.length_drop, List.length_take]; rfl)) ?_; (with_reducible refine (impl_NumberOfState.calls kj292 t456 t481 false _ A325.out).mono ?_); rintro e w347 ⟨rfl, hb⟩; refine ⟨_, rfl, ?_⟩; have n0_ := Aside0.mk (Kd.R_below (by (with_reducible repeat (first | apply Kd.R_alloc | apply Kd.R_drewN | apply Kd.R_drew)); exact HO_62.out) hb); have n1_ := Aside0.mk (Kd.R_below (by (with_reducible repeat (first | apply Kd.R_alloc | apply Kd.R_drewN | apply Kd.R_drew)); exact HO_68.out) hb); have n2_ := Aside0.mk (below_step (by repeat (first | (with_reducible first | exact HB.out | apply below_alloc | apply pw_below_drewN | apply below_drew1) | exact HB.out)) hb); clear HO_62; clear HO_68; clear HB; have HO_62 := n0_; have HO_68 := n1_; have HB := n2_; clear n0_ n1_ n2_; (try clear hb); (try clear hb2); (try clear hk); (try clear hi)) | ((with_reducible refine gate_callee (f := 35) rfl ?_); refine goesL_ (some 562) rfl rfl Tryz.func35 (by kernel_rfl) rfl #[.string t460] rfl (by (try simp only [List.map_toArray, List.map_cons, List.map_nil]); first | done | rfl | (simp only [List.length_drop, List.length_take]; rfl)) ?_; (with_reducible refine (impl_NumberOfState.calls kj292 t460 t483 t484 _ A326.out).mono ?_); rintro e w348 ⟨rfl, hb⟩; refine ⟨_, rfl, ?_⟩; have n0_ := Aside0.mk (Kd.R_below (by (with_reducible repeat (first | apply Kd.R_alloc | apply Kd.R_drewN | apply Kd.R_drew)); exact HO_62.out) hb); have n1_ := Aside0.mk (Kd.R_below (by (with_reducible repeat (first | apply Kd.R_alloc | apply Kd.R_drewN | apply Kd.R_drew)); exact HO_68.out) hb); have n2_ := Aside0.mk (below_step (by repeat (first | (with_reducible first | exact HB.out | apply below_alloc | apply pw_below_drewN | apply below_drew1) | exact HB.out)) hb); clear HO_62; clear HO_68; clear HB; have HO_62 := n0_; have HO_68 := n1_; have HB := n2_; clear n0_ n1_ n2_; (try clear hb); (try clear hb2); (try clear hk); (try clear hi)))
   go_ret
   exact ⟨by first | rfl | (simp [errW_none, errW_some] <;> rfl) | (simp [*, errW_none, errW_some] <;> rfl), by repeat (first | (with_reducible first | exact HB.out | apply below_alloc | apply pw_below_drewN | apply below_drew1) | exact HB.out)⟩
 ·replace c324 := Bool.eq_false_iff.mpr c324
  subst c324
  rw [if_neg (show ¬ (false = true) by decide)] at H
  have H1 := H
  clear H
  have H := H1
  clear H1
  have H' := Aside0.mk H
  clear H
  go_wp2
  refine Met.intro (hJ_ _ _ ?mg_ ?rel)
  case mg_ => kernel_rfl
  case rel => exact ⟨_, H', ⟨by have := HJ17.out; have := HJ148.out; have := HJ224.out; have := HJ245.out; have := HJ292.out; first | omega | exact Nat.le_refl _⟩, ⟨by (with_reducible repeat (first | apply Kd.R_alloc | apply Kd.R_drewN | apply Kd.R_drew)); exact HO_62.out⟩, ⟨by (with_reducible repeat (first | apply Kd.R_alloc | apply Kd.R_drewN | apply Kd.R_drew)); exact HO_68.out⟩, ⟨by repeat (first | (with_reducible first | exact HB.out | apply below_alloc | apply pw_below_drewN | apply below_drew1) | exact HB.out)⟩⟩

def laws_FnWaysLead.c21 : PSigma fun P0_ : Prop => Hole P0_ → laws_FnWaysLead.c19.2.1 := by
 refine' ⟨_, fun HP0_ => _⟩
 rotate_left 1
 intro k A0 c0 l0 A1 c1 l1 r w HR0 HC0 HR1 HC1 A3 t387 t388 A5 t389 t390 A6 t393 t394 A7 t397 t398 A8 t399 t400 A9 t401 t402 A10 t403 t404 A11 t405 t406 A12 t409 t410 A13 t413 t414 A14 t415 t416 A15 t417 t418 A16 t421 t422 A17 _ _ _ w19 w20 v391 w21 v395 w22 _ w23 w24 w25 v407 w26 v411 w27 _ w28 v419 w29 v423 HO392 HO396 HO408 HO412 HO420 HO424 _ _ _ _ _ _ _ kj17 HJ17 _ _ HO_7 _ HO_27 _ kj148 HJ148 _ _ HO_19 _ kj224 HJ224 _ _ kj245 HJ245 t451 A280 t452 t453 A281 t454 t455 A282 t456 t457 A283 t458 t459 A284 t460 t461 A285 t462 t463 A286 t464 A287 t467 t468 A288 t469 t470 A289 t471 A290 t472 t473 A291 t476 t477 A292 w294 w295 _ w296 _ w297 _ w298 Ao299 co299 w300 nd w301 w302 v474 w303 v478 HO466 HO475 HO479 _ _ _ HO_62 HO_68 HB kj292 HJ292 HC323 _ _ f_ wc hcut
 clear HC323
 try clear c1
 try clear c2
 try clear p2
 try clear c3
 try clear p4
 try clear q4
 try clear hx4
 try clear p6
 try clear c8
 try clear c22
 try clear c23
 try clear c24
 try clear c25
 try clear c26
 try clear c27
 try clear c28
 try clear c29
 try clear c30
 try clear c31
 try clear c32
 try clear c33
 try clear c34
 try clear c35
 try clear p44
 try clear q44
 try clear hx44
 try clear p64
 try clear c247
 try clear c262
 try clear c264
 try clear c264b0
 try clear c265
 try clear c265b0
 try clear c266
 try clear c266b0
 try clear c267
 try clear c267b0
 try clear c269
 try clear c270
 try clear c270b0
 try clear c270b1
 try clear c304
 try clear c304b0
 try clear c304b1
 try clear c304b2
 try clear c305
 try clear c305b0
 try clear c305b1
 try clear c306
 try clear c306b0
 try clear c306b1
 try clear c306b2
 try clear c307
 try clear c307b0
 try clear c307b1
 try clear c308
 try clear c308b0
 try clear c308b1
 try clear c308b2
 try clear c309
 try clear c309b0
 try clear c309b1
 try clear c310
 try clear c310b0
 try clear c310b1
 try clear c310b2
 try clear c311
 try clear c311b0
 try clear c311b1
 try clear c312
 try clear c312b0
 try clear c312b1
 try clear c312b2
 try clear c314
 try clear c315
 try clear c315b0
 try clear c315b1
 try clear c315b2
 try clear c322
 try clear c324
 try clear c327
 try clear c328
 try clear c328b0
 try clear c328b1
 try clear c329
 try clear c330
 try clear c330b0
 try clear c330b1
 try clear c332
 try clear c332b0
 try clear c332b1
 try clear c334
 try clear c334b0
 try clear c334b1
 try clear c336
 try clear c336b0
 try clear c336b1
 try clear hx447_0
 try clear hx448_0
 try clear p2
 try clear p4
 try clear p44
 try clear p445
 try clear p446
 try clear p447
 try clear p448
 try clear p6
 try clear p64
 try clear q4
 try clear q44
 try clear q442
 try clear q443
 try clear q444
 try clear q445
 try clear q446
 try clear q447
 try clear q448
 obtain ⟨kq, HA, HJ322, HO_62, HO_68, HB⟩ := hcut
 cases kq with
 | zero => exact absurd HA.out (by simp [laws_FnWaysLead.j11])
 | succ kj322 =>
  have H := HA.out
  clear HA
  simp only [laws_FnWaysLead.j11] at H
  by_cases c349 : t468 = true
  ·subst c349
   rw [if_pos rfl] at H
   have H1 := H
   clear H
   have H := H1
   clear H1
   replace H := Option.bind_eq_some_iff.mp H
   obtain ⟨⟨t485, t486⟩, A3500, H⟩ := H
   try dsimp +instances only at H
   replace H := H
   have A350 := Aside0.mk A3500
   clear A3500
   have HC351 := Aside0.mk H
   clear H
   go_upto_region 73 with (first | ((with_reducible refine gate_callee (f := 33) rfl ?_); refine goesL_ (some 594) rfl rfl Tryz.func33 (by kernel_rfl) rfl #[.string t467] rfl (by (try simp only [List.map_toArray, List.map_cons, List.map_nil]); first | done | rfl | (simp only [List.length_drop, List.length_take]; rfl)) ?_; (with_reducible refine (impl_ParseMoves.calls kj322 t467 t485 t486 _ A350.out).mono ?_); rintro e w352 ⟨v487, rfl, ho0, hb⟩; refine ⟨_, rfl, ?_⟩; have n0_ := Aside0.mk (Kd.R_elder' (by (with_reducible repeat (first | apply Kd.R_alloc | apply Kd.R_drewN | apply Kd.R_drew)); exact HO_62.out) (Kd.R_base ho0) hb); have n1_ := Aside0.mk (Kd.R_elder' (by (with_reducible repeat (first | apply Kd.R_alloc | apply Kd.R_drewN | apply Kd.R_drew)); exact HO_68.out) (Kd.R_base ho0) hb); have n2_ := Aside0.mk (Kd.R_lower (Kd.R_new' (Kd.R_new' ho0 (Kd.R_lt (by (with_reducible repeat (first | apply Kd.R_alloc | apply Kd.R_drewN | apply Kd.R_drew)); exact HO_62.out))) (Kd.R_lt (by (with_reducible repeat (first | apply Kd.R_alloc | apply Kd.R_drewN | apply Kd.R_drew)); exact HO_68.out))) (below_size (by repeat (first | (with_reducible first | exact HB.out | apply below_alloc | apply pw_below_drewN | apply below_drew1) | exact HB.out)))); have n3_ := Aside0.mk (below_step (by repeat (first | (with_reducible first | exact HB.out | apply below_alloc | apply pw_below_drewN | apply below_drew1) | exact HB.out)) hb); clear HO_62; clear HO_68; clear HB; have HO_62 := n0_; have HO_68 := n1_; have HO488 := n2_; have HB := n3_; clear n0_ n1_ n2_ n3_; (try clear hb); (try clear hb2); (try clear hk); (try clear hi); (try clear ho0)))
   (try simp only [Act.put, List.setIfInBounds_toArray, List.set_cons_zero, List.set_cons_succ])
   refine wp_cutF [o_,o_,o_,o_,o_,o_,o_,o_,o_,o_,o_,o_,o_,o_,o_,o_,o_,o_,o_,o_,o_,o_,o_,o_,o_,o_,o_,o_,o_,o_,o_,o_,o_,o_,o_,o_,o_,o_,o_,o_,o_,o_,o_,o_,o_,o_,o_,o_,o_,o_,o_,o_,o_,o_,o_,o_,o_,o_,o_,o_,o_,o_,o_,o_,o_,o_,o_,o_,o_,o_,o_,o_,o_,o_,o_,o_,o_,o_,o_,o_,i_,i_,i_,i_,i_,i_,i_,i_,i_,i_,i_,i_,i_,i_,i_,i_,i_,i_,i_,i_,i_,i_,i_,i_,i_,i_,i_,i_,i_,i_,i_,i_,i_,i_,i_,i_,i_,i_,i_,i_,i_,i_,i_,i_,i_,i_,i_,i_,i_,i_,i_,i_,i_,i_,i_,i_,i_,i_,i_,i_,i_,i_,i_,i_,i_,i_,i_,i_,i_,i_,i_,i_,i_,i_,i_,i_,i_,i_,i_,i_,i_,i_,i_,i_,i_,i_,i_,i_,i_,i_,i_,i_,i_,i_,i_,i_,i_,i_,i_,i_,i_,i_,i_,i_,i_,i_,i_,i_,i_,i_,i_,i_,i_,i_,i_,i_,i_,i_,i_,i_,i_,i_,i_,i_,i_,i_,i_,i_,i_,i_,i_,i_,i_,i_,i_,i_,i_,i_,i_,i_,i_,i_,i_,i_,i_,i_,i_,i_,i_,i_,i_,i_,i_,i_,i_,i_,i_,i_,i_,i_,i_,i_,i_,i_,i_,i_,i_,i_,i_,i_,i_,i_,i_,i_,i_,i_,i_,i_,i_,i_,i_,i_,i_,i_,i_,i_,i_,i_,i_,i_,i_,i_,i_,i_,i_,i_,i_,i_,i_,i_,i_,i_,i_,i_,i_,i_,i_,i_,i_,i_,i_,i_,i_,i_,i_,i_,i_,i_,i_,i_,i_,i_,i_,i_,i_,i_,i_,i_,i_,i_,i_,i_,i_,i_,i_,i_,i_,i_,i_,i_,i_,i_,i_,i_,i_,i_,i_,i_,i_,i_,i_,i_,i_,i_,i_,i_,i_,i_,i_,i_,i_,i_,i_,i_,i_,i_,i_,i_,i_,i_,i_,i_,i_,i_,i_,i_,i_,i_,i_,i_,i_,i_,i_,i_,i_,i_,o_,o_,o_,i_,i_,i_,i_,o_,o_,o_,i_,i_,i_,i_,i_,i_,i_,i_,i_,i_,i_,i_,i_,i_,i_,i_,i_,i_,i_,i_,i_,i_,i_,i_,i_,i_,i_,i_,i_,i_,i_,i_,i_,i_,i_,i_,i_,i_,i_,i_,i_,i_,i_,i_,i_,i_,i_,i_,i_,i_,i_,i_,i_,i_,i_,i_,i_,i_,i_,i_,i_,i_,i_,i_,i_,i_,i_,i_,i_,i_,i_,i_,i_,i_,i_,i_,i_,i_,i_,i_,i_,i_,i_,i_,i_,i_,i_,i_,i_,i_,i_,i_,i_,i_,i_,i_,i_,i_,i_,i_,i_,i_,i_,i_,i_,i_,i_,i_,i_,i_,i_,i_,i_,i_,i_,i_,i_,i_,i_,i_,i_,i_,i_,i_,i_,i_,i_,i_,i_,i_,i_,i_,i_,i_,i_,i_,i_,i_,i_,i_,i_,i_,i_,i_,i_,i_,i_,i_,i_,i_,i_,i_,i_,i_,i_,i_,i_,i_,i_,i_,i_,i_,i_,i_,i_,i_,i_,i_,i_,i_,i_,i_,i_,i_,i_,i_,i_,i_,i_,i_,i_,i_,i_,i_,i_,i_,i_,i_,i_,i_,i_,i_,i_,i_,i_,i_,i_,i_,i_,i_,i_,i_,i_,i_,i_,i_,i_,i_,i_,i_,i_,i_,i_,i_,i_,i_,i_,i_,i_,i_,i_,i_,i_,i_,i_,i_,i_,i_,i_,i_,i_,i_,i_,i_,i_,i_,i_,i_,i_,i_,i_] (fun f_ wc => ∃ (kq : Nat) (x604_350 : Bool), (f_ 604) = .bool x604_350 ∧ Aside0 (laws_FnWaysLead.j12 kq t471 t472 t473 x604_350 = some r) ∧ Aside0 (kq ≤ kj322) ∧ Aside0 (Kd.R (Kd.int .i64) 3 wc w.heap.size (fun _ => True) v474 t472) ∧ Aside0 (Below w.heap.size w wc)) ?rest ?first
   case first =>
    intro J_ K_ hJ_ hK_
    have H := HC351.out
    clear HC351
    by_cases c353 : t486 = true
    ·subst c353
     rw [if_pos rfl] at H
     have H1 := H
     clear H
     have H := H1
     clear H1
     replace H := Option.bind_eq_some_iff.mp H
     obtain ⟨t489, A3540, H⟩ := H
     try dsimp +instances only at H
     replace H := H
     have A354 := Aside0.mk A3540
     clear A3540
     have H' := Aside0.mk H
     clear H
     obtain ⟨Ao355, co355, eo355⟩ := Kd.R_slice HO488.out
     subst eo355
     go_wp2_with (first | (go_at_call 18; (with_reducible refine (laws_ySame.calls kj322 _ _ t485 _ _ t464 t489 _ ?side1 ?side2 ?side3 ?side4 A354.out).mono ?_); (case side1 => repeat (first | exact (Kd.R_reads' HO488.out).2.2 | (with_reducible refine Kd.C_alloc ?_ _) | (with_reducible refine Kd.C_drewN ?_ _) | (with_reducible refine Kd.C_drew ?_))); (case side2 => exact (Kd.R_reads' HO488.out).2.1); (case side3 => repeat (first | exact (Kd.R_reads' HO_62.out).2.2 | (with_reducible refine Kd.C_alloc ?_ _) | (with_reducible refine Kd.C_drewN ?_ _) | (with_reducible refine Kd.C_drew ?_))); (case side4 => exact (Kd.R_reads' HO_62.out).2.1); rintro e w' ⟨rfl, ⟨nd, rfl⟩⟩))
     refine Met.intro (hJ_ _ _ ?mg_ ?rel)
     case mg_ => kernel_rfl
     case rel => exact ⟨_, (!t489), (by first | rfl | ((conv => lhs; whnf); first | rfl | (simp; done) | (simp [*]; done))), H', ⟨by have := HJ17.out; have := HJ148.out; have := HJ224.out; have := HJ245.out; have := HJ292.out; have := HJ322.out; first | omega | exact Nat.le_refl _⟩, ⟨by (with_reducible repeat (first | apply Kd.R_alloc | apply Kd.R_drewN | apply Kd.R_drew)); exact Kd.R_mono HO_68.out (fun _ hk => trivial)⟩, ⟨by repeat (first | (with_reducible first | exact HB.out | apply below_alloc | apply pw_below_drewN | apply below_drew1) | exact HB.out)⟩⟩
    ·replace c353 := Bool.eq_false_iff.mpr c353
     subst c353
     rw [if_neg (show ¬ (false = true) by decide)] at H
     have H1 := H
     clear H
     have H := H1
     clear H1
     have H' := Aside0.mk H
     clear H
     go_wp2
     refine Met.intro (hJ_ _ _ ?mg_ ?rel)
     case mg_ => kernel_rfl
     case rel => exact ⟨_, (true), (by first | rfl | ((conv => lhs; whnf); first | rfl | (simp; done) | (simp [*]; done))), H', ⟨by have := HJ17.out; have := HJ148.out; have := HJ224.out; have := HJ245.out; have := HJ292.out; have := HJ322.out; first | omega | exact Nat.le_refl _⟩, ⟨by (with_reducible repeat (first | apply Kd.R_alloc | apply Kd.R_drewN | apply Kd.R_drew)); exact Kd.R_mono HO_68.out (fun _ hk => trivial)⟩, ⟨by repeat (first | (with_reducible first | exact HB.out | apply below_alloc | apply pw_below_drewN | apply below_drew1) | exact HB.out)⟩⟩
   case rest =>
    intro f_ wc hcut
    dsimp only [maskF] at hcut ⊢
    generalize f_ 604 = u604 at hcut ⊢
    repeat revert ‹_›
    intro HP0_
    exact HP0_.out
  ·replace c349 := Bool.eq_false_iff.mpr c349
   subst c349
   rw [if_neg (show ¬ (false = true) by decide)] at H
   have H1 := H
   clear H
   have H := H1
   clear H1
   by_cases c364 : t473 = true
   ·subst c364
    rw [if_pos rfl] at H
    have H1 := H
    clear H
    have H := H1
    clear H1
    replace H := Option.bind_eq_some_iff.mp H
    obtain ⟨⟨t492, t493⟩, A3650, H⟩ := H
    try dsimp +instances only at H
    replace H := H
    have A365 := Aside0.mk A3650
    clear A3650
    by_cases c366 : t493 = true
    ·subst c366
     rw [if_pos rfl] at H
     have H1 := H
     clear H
     have H := H1
     clear H1
     obtain rfl := Option.some.inj H
     obtain ⟨Ao367, co367, eo367⟩ := Kd.R_slice HO_68.out
     subst eo367
     go_wp2_with (first | ((with_reducible refine gate_callee (f := 30) rfl ?_); refine goesL_ (some 608) rfl rfl Tryz.func30 (by kernel_rfl) rfl #[.slice Ao367 t472.length co367] rfl (by (try simp only [List.map_toArray, List.map_cons, List.map_nil]); first | done | rfl | (simp only [List.length_drop, List.length_take]; rfl)) ?_; (with_reducible refine (impl_MovesText.calls kj322 _ _ t472 t492 true _ ?side1 ?side2 A365.out).mono ?_); (case side1 => repeat (first | exact (Kd.R_reads' HO_68.out).2.2 | (with_reducible refine Kd.C_alloc ?_ _) | (with_reducible refine Kd.C_drewN ?_ _) | (with_reducible refine Kd.C_drew ?_))); (case side2 => exact (Kd.R_reads' HO_68.out).2.1); rintro e w368 ⟨rfl, hb⟩; refine ⟨_, rfl, ?_⟩; have n0_ := Aside0.mk (Kd.R_below (by (with_reducible repeat (first | apply Kd.R_alloc | apply Kd.R_drewN | apply Kd.R_drew)); exact HO_62.out) hb); have n1_ := Aside0.mk (Kd.R_below (by (with_reducible repeat (first | apply Kd.R_alloc | apply Kd.R_drewN | apply Kd.R_drew)); exact HO_68.out) hb); have n2_ := Aside0.mk (below_step (by repeat (first | (with_reducible first | exact HB.out | apply below_alloc | apply pw_below_drewN | apply below_drew1) | exact HB.out)) hb); clear HO_62; clear HO_68; clear HB; have HO_62 := n0_; have HO_68 := n1_; have HB := n2_; clear n0_ n1_ n2_; (try clear hb); (try clear hb2); (try clear hk); (try clear hi)))
     go_ret
     exact ⟨by first | rfl | (simp [errW_none, errW_some] <;> rfl) | (simp [*, errW_none, errW_some] <;> rfl), by repeat (first | (with_reducible first | exact HB.out | apply below_alloc | apply pw_below_drewN | apply below_drew1) | exact HB.out)⟩
    ·replace c366 := Bool.eq_false_iff.mpr c366
     subst c366
     rw [if_neg (show ¬ (false = true) by decide)] at H
     have H1 := H
     clear H
     have H := H1
     clear H1
     obtain rfl := Option.some.inj H
     obtain ⟨Ao369, co369, eo369⟩ := Kd.R_slice HO_68.out
     subst eo369
     go_wp2_with (first | ((with_reducible refine gate_callee (f := 30) rfl ?_); refine goesL_ (some 608) rfl rfl Tryz.func30 (by kernel_rfl) rfl #[.slice Ao369 t472.length co369] rfl (by (try simp only [List.map_toArray, List.map_cons, List.map_nil]); first | done | rfl | (simp only [List.length_drop, List.length_take]; rfl)) ?_; (with_reducible refine (impl_MovesText.calls kj322 _ _ t472 t492 false _ ?side1 ?side2 A365.out).mono ?_); (case side1 => repeat (first | exact (Kd.R_reads' HO_68.out).2.2 | (with_reducible refine Kd.C_alloc ?_ _) | (with_reducible refine Kd.C_drewN ?_ _) | (with_reducible refine Kd.C_drew ?_))); (case side2 => exact (Kd.R_reads' HO_68.out).2.1); rintro e w370 ⟨rfl, hb⟩; refine ⟨_, rfl, ?_⟩; have n0_ := Aside0.mk (Kd.R_below (by (with_reducible repeat (first | apply Kd.R_alloc | apply Kd.R_drewN | apply Kd.R_drew)); exact HO_62.out) hb); have n1_ := Aside0.mk (Kd.R_below (by (with_reducible repeat (first | apply Kd.R_alloc | apply Kd.R_drewN | apply Kd.R_drew)); exact HO_68.out) hb); have n2_ := Aside0.mk (below_step (by repeat (first | (with_reducible first | exact HB.out | apply below_alloc | apply pw_below_drewN | apply below_drew1) | exact HB.out)) hb); clear HO_62; clear HO_68; clear HB; have HO_62 := n0_; have HO_68 := n1_; have HB := n2_; clear n0_ n1_ n2_; (try clear hb); (try clear hb2); (try clear hk); (try clear hi)))
     go_ret
     exact ⟨by first | rfl | (simp [errW_none, errW_some] <;> rfl) | (simp [*, errW_none, errW_some] <;> rfl), by repeat (first | (with_reducible first | exact HB.out | apply below_alloc | apply pw_below_drewN | apply below_drew1) | exact HB.out)⟩
   ·replace c364 := Bool.eq_false_iff.mpr c364
    subst c364
    rw [if_neg (show ¬ (false = true) by decide)] at H
    have H1 := H
    clear H
    have H := H1
    clear H1
    obtain rfl := Option.some.inj H
    go_wp2
    go_ret
    exact ⟨by first | rfl | (simp [errW_none, errW_some] <;> rfl) | (simp [*, errW_none, errW_some] <;> rfl), by repeat (first | (with_reducible first | exact HB.out | apply below_alloc | apply pw_below_drewN | apply below_drew1) | exact HB.out)⟩

theorem laws_FnWaysLead.c22 : laws_FnWaysLead.c21.1 := by
 intro k A0 c0 l0 A1 c1 l1 r w HR0 HC0 HR1 HC1 A3 t387 t388 A5 t389 t390 A6 t393 t394 A7 t397 t398 A8 t399 t400 A9 t401 t402 A10 t403 t404 A11 t405 t406 A12 t409 t410 A13 t413 t414 A14 t415 t416 A15 t417 t418 A16 t421 t422 A17 _ _ _ w19 w20 v391 w21 v395 w22 _ w23 w24 w25 v407 w26 v411 w27 _ w28 v419 w29 v423 HO392 HO396 HO408 HO412 HO420 HO424 _ _ _ _ _ _ _ kj17 HJ17 _ _ HO_7 _ HO_27 _ kj148 HJ148 _ _ HO_19 _ kj224 HJ224 _ _ kj245 HJ245 t451 A280 t452 t453 A281 t454 t455 A282 t456 t457 A283 t458 t459 A284 t460 t461 A285 t462 t463 A286 t464 A287 t467 t469 t470 A289 t471 A290 t472 t473 A291 t476 t477 A292 w294 w295 _ w296 _ w297 _ w298 Ao299 co299 w300 nd w301 w302 v474 w303 v478 HO466 HO475 HO479 _ _ _ _ _ _ kj292 HJ292 _ _ kj322 HJ322 A288 t485 t486 A350 HC351 _ _ w352 v487 HO_62 HO_68 HO488 HB _ _ f_ wc u604 hcut
 clear HC351
 try clear c1
 try clear c2
 try clear p2
 try clear c3
 try clear p4
 try clear q4
 try clear hx4
 try clear p6
 try clear c8
 try clear c22
 try clear c23
 try clear c24
 try clear c25
 try clear c26
 try clear c27
 try clear c28
 try clear c29
 try clear c30
 try clear c31
 try clear c32
 try clear c33
 try clear c34
 try clear c35
 try clear p44
 try clear q44
 try clear hx44
 try clear p64
 try clear c247
 try clear c262
 try clear c264
 try clear c264b0
 try clear c265
 try clear c265b0
 try clear c266
 try clear c266b0
 try clear c267
 try clear c267b0
 try clear c269
 try clear c270
 try clear c270b0
 try clear c270b1
 try clear c304
 try clear c304b0
 try clear c304b1
 try clear c304b2
 try clear c305
 try clear c305b0
 try clear c305b1
 try clear c306
 try clear c306b0
 try clear c306b1
 try clear c306b2
 try clear c307
 try clear c307b0
 try clear c307b1
 try clear c308
 try clear c308b0
 try clear c308b1
 try clear c308b2
 try clear c309
 try clear c309b0
 try clear c309b1
 try clear c310
 try clear c310b0
 try clear c310b1
 try clear c310b2
 try clear c311
 try clear c311b0
 try clear c311b1
 try clear c312
 try clear c312b0
 try clear c312b1
 try clear c312b2
 try clear c314
 try clear c315
 try clear c315b0
 try clear c315b1
 try clear c315b2
 try clear c322
 try clear c324
 try clear c327
 try clear c328
 try clear c328b0
 try clear c328b1
 try clear c329
 try clear c330
 try clear c330b0
 try clear c330b1
 try clear c332
 try clear c332b0
 try clear c332b1
 try clear c334
 try clear c334b0
 try clear c334b1
 try clear c336
 try clear c336b0
 try clear c336b1
 try clear c349
 try clear c353
 try clear hx447_0
 try clear hx448_0
 try clear p2
 try clear p4
 try clear p44
 try clear p445
 try clear p446
 try clear p447
 try clear p448
 try clear p6
 try clear p64
 try clear q4
 try clear q44
 try clear q442
 try clear q443
 try clear q444
 try clear q445
 try clear q446
 try clear q447
 try clear q448
 obtain ⟨kq, x604_350, rfl, HA, HJ350, HO_68, HB⟩ := hcut
 cases kq with
 | zero => exact absurd HA.out (by simp [laws_FnWaysLead.j12])
 | succ kj350 =>
  have H := HA.out
  clear HA
  simp only [laws_FnWaysLead.j12] at H
  by_cases c356 : x604_350 = true
  ·subst c356
   rw [if_pos rfl] at H
   have H1 := H
   clear H
   have H := H1
   clear H1
   obtain rfl := Option.some.inj H
   go_wp2
   go_ret
   exact ⟨by first | rfl | (simp [errW_none, errW_some] <;> rfl) | (simp [*, errW_none, errW_some] <;> rfl), by repeat (first | (with_reducible first | exact HB.out | apply below_alloc | apply pw_below_drewN | apply below_drew1) | exact HB.out)⟩
  ·replace c356 := Bool.eq_false_iff.mpr c356
   subst c356
   rw [if_neg (show ¬ (false = true) by decide)] at H
   have H1 := H
   clear H
   have H := H1
   clear H1
   by_cases c357 : t473 = true
   ·subst c357
    rw [if_pos rfl] at H
    have H1 := H
    clear H
    have H := H1
    clear H1
    replace H := Option.bind_eq_some_iff.mp H
    obtain ⟨⟨t490, t491⟩, A3580, H⟩ := H
    try dsimp +instances only at H
    replace H := H
    have A358 := Aside0.mk A3580
    clear A3580
    by_cases c359 : t491 = true
    ·subst c359
     rw [if_pos rfl] at H
     have H1 := H
     clear H
     have H := H1
     clear H1
     obtain rfl := Option.some.inj H
     obtain ⟨Ao360, co360, eo360⟩ := Kd.R_slice HO_68.out
     subst eo360
     go_wp2_with (first | ((with_reducible refine gate_callee (f := 30) rfl ?_); refine goesL_ (some 608) rfl rfl Tryz.func30 (by kernel_rfl) rfl #[.slice Ao360 t472.length co360] rfl (by (try simp only [List.map_toArray, List.map_cons, List.map_nil]); first | done | rfl | (simp only [List.length_drop, List.length_take]; rfl)) ?_; (with_reducible refine (impl_MovesText.calls kj350 _ _ t472 t490 true _ ?side1 ?side2 A358.out).mono ?_); (case side1 => repeat (first | exact (Kd.R_reads' HO_68.out).2.2 | (with_reducible refine Kd.C_alloc ?_ _) | (with_reducible refine Kd.C_drewN ?_ _) | (with_reducible refine Kd.C_drew ?_))); (case side2 => exact (Kd.R_reads' HO_68.out).2.1); rintro e w361 ⟨rfl, hb⟩; refine ⟨_, rfl, ?_⟩; have n0_ := Aside0.mk (Kd.R_below (by (with_reducible repeat (first | apply Kd.R_alloc | apply Kd.R_drewN | apply Kd.R_drew)); exact HO_68.out) hb); have n1_ := Aside0.mk (below_step (by repeat (first | (with_reducible first | exact HB.out | apply below_alloc | apply pw_below_drewN | apply below_drew1) | exact HB.out)) hb); clear HO_68; clear HB; have HO_68 := n0_; have HB := n1_; clear n0_ n1_; (try clear hb); (try clear hb2); (try clear hk); (try clear hi)))
     go_ret
     exact ⟨by first | rfl | (simp [errW_none, errW_some] <;> rfl) | (simp [*, errW_none, errW_some] <;> rfl), by repeat (first | (with_reducible first | exact HB.out | apply below_alloc | apply pw_below_drewN | apply below_drew1) | exact HB.out)⟩
    ·replace c359 := Bool.eq_false_iff.mpr c359
     subst c359
     rw [if_neg (show ¬ (false = true) by decide)] at H
     have H1 := H
     clear H
     have H := H1
     clear H1
     obtain rfl := Option.some.inj H
     obtain ⟨Ao362, co362, eo362⟩ := Kd.R_slice HO_68.out
     subst eo362
     go_wp2_with (first | ((with_reducible refine gate_callee (f := 30) rfl ?_); refine goesL_ (some 608) rfl rfl Tryz.func30 (by kernel_rfl) rfl #[.slice Ao362 t472.length co362] rfl (by (try simp only [List.map_toArray, List.map_cons, List.map_nil]); first | done | rfl | (simp only [List.length_drop, List.length_take]; rfl)) ?_; (with_reducible refine (impl_MovesText.calls kj350 _ _ t472 t490 false _ ?side1 ?side2 A358.out).mono ?_); (case side1 => repeat (first | exact (Kd.R_reads' HO_68.out).2.2 | (with_reducible refine Kd.C_alloc ?_ _) | (with_reducible refine Kd.C_drewN ?_ _) | (with_reducible refine Kd.C_drew ?_))); (case side2 => exact (Kd.R_reads' HO_68.out).2.1); rintro e w363 ⟨rfl, hb⟩; refine ⟨_, rfl, ?_⟩; have n0_ := Aside0.mk (Kd.R_below (by (with_reducible repeat (first | apply Kd.R_alloc | apply Kd.R_drewN | apply Kd.R_drew)); exact HO_68.out) hb); have n1_ := Aside0.mk (below_step (by repeat (first | (with_reducible first | exact HB.out | apply below_alloc | apply pw_below_drewN | apply below_drew1) | exact HB.out)) hb); clear HO_68; clear HB; have HO_68 := n0_; have HB := n1_; clear n0_ n1_; (try clear hb); (try clear hb2); (try clear hk); (try clear hi)))
     go_ret
     exact ⟨by first | rfl | (simp [errW_none, errW_some] <;> rfl) | (simp [*, errW_none, errW_some] <;> rfl), by repeat (first | (with_reducible first | exact HB.out | apply below_alloc | apply pw_below_drewN | apply below_drew1) | exact HB.out)⟩
   ·replace c357 := Bool.eq_false_iff.mpr c357
    subst c357
    rw [if_neg (show ¬ (false = true) by decide)] at H
    have H1 := H
    clear H
    have H := H1
    clear H1
    obtain rfl := Option.some.inj H
    go_wp2
    go_ret
    exact ⟨by first | rfl | (simp [errW_none, errW_some] <;> rfl) | (simp [*, errW_none, errW_some] <;> rfl), by repeat (first | (with_reducible first | exact HB.out | apply below_alloc | apply pw_below_drewN | apply below_drew1) | exact HB.out)⟩

theorem laws_FnWaysLead.d21 : laws_FnWaysLead.c19.2.1 := laws_FnWaysLead.c21.2 ⟨laws_FnWaysLead.c22⟩

theorem laws_FnWaysLead.d19 : laws_FnWaysLead.c17.2.1 := laws_FnWaysLead.c19.2.2 ⟨laws_FnWaysLead.c20⟩ ⟨laws_FnWaysLead.d21⟩

theorem laws_FnWaysLead.d17 : laws_FnWaysLead.c12.2.1 := laws_FnWaysLead.c17.2.2 ⟨laws_FnWaysLead.c18⟩ ⟨laws_FnWaysLead.d19⟩

theorem laws_FnWaysLead.d15 : laws_FnWaysLead.c14.1 := laws_FnWaysLead.c15.2 ⟨laws_FnWaysLead.c16⟩

theorem laws_FnWaysLead.d14 : laws_FnWaysLead.c13.1 := laws_FnWaysLead.c14.2 ⟨laws_FnWaysLead.d15⟩

theorem laws_FnWaysLead.d13 : laws_FnWaysLead.c12.1 := laws_FnWaysLead.c13.2 ⟨laws_FnWaysLead.d14⟩

theorem laws_FnWaysLead.d12 : laws_FnWaysLead.c8.2.1 := laws_FnWaysLead.c12.2.2 ⟨laws_FnWaysLead.d13⟩ ⟨laws_FnWaysLead.d17⟩

theorem laws_FnWaysLead.d10 : laws_FnWaysLead.c9.1 := laws_FnWaysLead.c10.2 ⟨laws_FnWaysLead.c11⟩

theorem laws_FnWaysLead.d9 : laws_FnWaysLead.c8.1 := laws_FnWaysLead.c9.2 ⟨laws_FnWaysLead.d10⟩

theorem laws_FnWaysLead.d8 : laws_FnWaysLead.c5.2.1 := laws_FnWaysLead.c8.2.2 ⟨laws_FnWaysLead.d9⟩ ⟨laws_FnWaysLead.d12⟩

theorem laws_FnWaysLead.d6 : laws_FnWaysLead.c5.1 := laws_FnWaysLead.c6.2 ⟨laws_FnWaysLead.c7⟩

theorem laws_FnWaysLead.d5 : laws_FnWaysLead.c0.2.1 := laws_FnWaysLead.c5.2.2 ⟨laws_FnWaysLead.d6⟩ ⟨laws_FnWaysLead.d8⟩

theorem laws_FnWaysLead.d2 : laws_FnWaysLead.c1.1 := laws_FnWaysLead.c2.2.2 ⟨laws_FnWaysLead.c3⟩ ⟨laws_FnWaysLead.c4⟩

theorem laws_FnWaysLead.d1 : laws_FnWaysLead.c0.1 := laws_FnWaysLead.c1.2 ⟨laws_FnWaysLead.d2⟩

theorem laws_FnWaysLead.calls (k : Nat) (A0 : Option Addr) (c0 : Nat) (l0 : List Int) (A1 : Option Addr) (c1 : Nat) (l1 : List Int) (r : Bool) (w : World) (hr0 : Kd.C (Kd.int .u8) w A0 l0.length l0) (hc0 : l0.length ≤ c0) (hr1 : Kd.C (Kd.int .u8) w A1 l1.length l1) (hc1 : l1.length ≤ c1) (h : laws_FnWaysLead.f k l0 l1 = some r) :
  Calls Tryz.prog 3 #[.slice A0 l0.length c0, .slice A1 l1.length c1] w fun e w' => e = .returned (.bool r) ∧ Below w.heap.size w w' := laws_FnWaysLead.c0.2.2 ⟨laws_FnWaysLead.d1⟩ ⟨laws_FnWaysLead.d5⟩ k A0 c0 l0 A1 c1 l1 r w hr0 hc0 hr1 hc1 h
theorem laws_FnWaysLead.walk (P : laws_FnWaysLead.Pure) (a0 : Option Addr) (len0 cap0 : Nat) (z0 : List Int) (a1 : Option Addr) (len1 cap1 : Nat) (z1 : List Int) (w : World) (w0 : (a0 = none ∧ len0 = 0 ∧ cap0 = 0 ∧ z0 = []) ∨ ∃ x, a0 = some x ∧ len0 ≤ cap0 ∧ cap0 ≤ maxLen ∧ z0.length = cap0 ∧ (∀ i, i < z0.length → w.cell? (x.add i) = some (.int .u8 (z0.getD i 0))) ∧ ∀ n ∈ z0, (Lit.int .u8 n).wf = true) (y0 : len0 * 1 ≤ 140737488351232) (w1 : (a1 = none ∧ len1 = 0 ∧ cap1 = 0 ∧ z1 = []) ∨ ∃ x, a1 = some x ∧ len1 ≤ cap1 ∧ cap1 ≤ maxLen ∧ z1.length = cap1 ∧ (∀ i, i < z1.length → w.cell? (x.add i) = some (.int .u8 (z1.getD i 0))) ∧ ∀ n ∈ z1, (Lit.int .u8 n).wf = true) (y1 : len1 * 1 ≤ 140737488351232) :
  Calls Tryz.prog 3 #[.slice a0 len0 cap0, .slice a1 len1 cap1] w fun e w' => e = .returned (.bool true) ∧ Below w.heap.size w w' := by
 obtain ⟨l0, rfl, hr0, hm0, hw0, hc0⟩ := ReadsInt.ofRowC w0
 obtain ⟨l1, rfl, hr1, hm1, hw1, hc1⟩ := ReadsInt.ofRowC w1
 obtain ⟨k, h⟩ := P l0 l1 hm0 y0 hw0 hm1 y1 hw1
 refine (laws_FnWaysLead.calls k _ _ l0 _ _ l1 true w (Kd.C_of_reads (d := (0 : Int)) (h1 := fun _ => rfl) hr0) hc0 (Kd.C_of_reads (d := (0 : Int)) (h1 := fun _ => rfl) hr1) hc1 h).mono ?_
 rintro e w' ⟨rfl, hd⟩
 exact ⟨rfl, hd⟩

end Go.Proofs.YtddkffdjondjnaaGreatDoor.A
