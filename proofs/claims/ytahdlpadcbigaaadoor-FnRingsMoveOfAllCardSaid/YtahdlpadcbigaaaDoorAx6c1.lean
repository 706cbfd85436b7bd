-- written by a program of this session's over the kit's print (xp.py)
import Derived.Test.YtahdlpadcbigaaaDoorAx0
import Derived.Test.YtahdlpadcbigaaaDoorAx1
import Derived.Test.YtahdlpadcbigaaaDoorAx2
import Derived.Test.YtahdlpadcbigaaaDoorAx3
import Derived.Test.YtahdlpadcbigaaaDoorAx4
import Derived.Test.YtahdlpadcbigaaaDoorAx5
import Derived.Test.YtahdlpadcbigaaaDoorAx6
-- halved
namespace Go.Proofs.YtahdlpadcbigaaaDoor.A
-- slim
set_option maxHeartbeats 8000000
set_option maxRecDepth 100000
open Go.RowKit Go.Proofs.YtahdlpadcbigaaaDoorW.PrintWords Go.Proofs.YtahdlpadcbigaaaDoorW.PrintLast Go.Proofs.YtahdlpadcbigaaaDoorW.PrintMore
attribute [local go_sem] max2_int min2_int max_two min_two max_three min_three max_four min_four   -- for this text's walks alone
set_option linter.unusedVariables false
set_option linter.unusedSimpArgs false

def laws_FnRingsMoveOfAll.c0 : PSigma fun P0_ : Prop => Hole P0_ → (∀ (k : Nat) (a0 : ByteArray) (a1 : ByteArray) (A2 : Option Addr) (c2 : Nat) (l2 : List Int) (a3 : ByteArray) (a4 : Int) (a5 : Int) (a6 : Int) (r : Bool) (w : World) (hr2 : Kd.C (Kd.int .i64) w A2 l2.length l2) (hc2 : l2.length ≤ c2) (h : laws_FnRingsMoveOfAll.f k a0 a1 l2 a3 a4 a5 a6 = some r), Calls Tryd.prog 3 #[.string a0, .string a1, .slice A2 l2.length c2, .string a3, .int .i64 a4, .int .i64 a5, .int .i64 a6] w fun e w' => e = .returned (.bool r) ∧ Below w.heap.size w w') := by
 refine' ⟨_, fun HP0_ => _⟩
 rotate_left 1
 intro k a0 a1 A2 c2 l2 a3 a4 a5 a6 r w hr2 hc2 h
 have HR2 := Aside0.mk hr2
 have HC2 := Aside0.mk hc2
 clear hr2 hc2
 have HB := Aside0.mk (Below.refl w.heap.size w)
 unfold laws_FnRingsMoveOfAll.f at h
 have H := h
 clear h
 have HC8 := Aside0.mk H
 clear H
 go_enter Tryd.func3, Tryd.ntmps3
 try dsimp only [List.append]
 go_upto_region 1 with (fail)
 repeat (go_quiet (fail); go_upto_region 1 with (fail))
 refine wp_cutF [o_,o_,o_,o_,o_,o_,o_,o_,o_,o_,o_,o_,o_,o_,o_,o_,o_,o_,o_,o_,o_,o_,o_,o_,o_,o_,o_,o_,o_,o_,o_,o_,o_,o_,o_,o_,o_,o_,o_,o_,o_,o_,o_,o_,o_,o_,o_,o_,o_,o_,o_,o_,o_,o_,o_,o_,o_,o_,o_,o_,o_,o_,o_,o_,o_,o_,o_,o_,o_,o_,o_,o_,o_,o_,o_,i_,i_,i_,i_,i_,i_,i_,i_,i_,i_,i_,i_,i_,i_,i_,i_,i_,i_,i_,i_,i_,i_,i_,i_,i_,i_,i_,i_,i_,i_,i_,i_,i_,i_,i_,i_,i_,i_,i_,i_,i_,i_,i_,i_,i_,i_,i_,i_,i_,i_,i_,i_,i_,i_,i_,i_,i_,i_,i_,i_,i_,i_,i_,i_,i_,i_,i_,i_,i_,i_,i_,i_,i_,i_,i_,i_,i_,i_,i_,i_,i_,i_,i_,i_,i_,i_,i_,i_,i_,i_,i_,i_,i_,i_,i_,i_,i_,i_,i_,i_,i_,i_,i_,i_,i_,i_,i_,i_,i_,i_,i_,i_,i_,i_,i_,i_,i_,i_,i_,i_,i_,i_,i_,i_,i_,i_,i_,i_,i_,i_,i_,i_,i_,i_,i_,i_,i_,i_,i_,i_,i_,i_,i_,i_,i_,i_,i_,i_,i_,i_,i_,i_,i_,i_,i_,i_,i_,i_,i_,i_,i_,i_,i_,i_,i_,i_,i_,i_,i_,i_,i_,i_,i_,i_,i_,i_,i_,i_,i_,i_,i_,i_,i_,i_,i_,i_,i_,i_,i_,i_,i_,i_,i_,i_,i_,i_,i_,i_,i_,i_,i_,o_,o_,o_,i_,i_,i_,i_,i_,i_,i_,i_,i_,i_,i_,i_,i_,i_,i_,i_,i_,i_,i_,i_,i_,i_,i_,i_,i_,i_,i_,i_,i_,i_,i_,i_,i_,i_,i_,i_,i_,i_,i_,i_,i_,i_,i_,o_,o_,i_,i_,i_,i_,i_,i_,i_,i_,i_,i_,i_,i_,i_,i_,o_,o_,o_,i_,i_,i_,i_,i_,i_,i_,i_,i_,i_,i_,i_,i_,i_,i_,i_,i_,i_,i_,i_,i_,i_,i_,i_,i_,i_,i_,i_,i_,i_,i_,i_,i_,i_,i_,i_,i_,i_,i_,i_,i_,i_,i_,i_,i_,i_,i_,i_,i_,i_,i_,i_,i_,i_,i_,i_,i_,i_,i_,i_,i_,i_,i_,i_,i_,i_,i_,i_,i_,i_,i_,i_,i_,i_,i_,i_,i_,i_,i_,i_,i_,i_,i_,i_,i_,i_,i_,i_,i_,i_,i_,i_,i_,i_,i_,i_,i_,i_,i_,i_,i_,i_,i_,i_,i_,i_,i_,i_,i_,i_,i_,o_,o_,o_,i_,i_,i_,i_,i_,i_,i_,i_,i_,i_,i_,i_,i_,i_,i_,i_,i_,i_,i_,i_,i_,i_,i_,i_,i_,i_,i_,i_,i_,i_,i_,i_,i_,i_,i_,i_,i_,i_,i_,i_,i_,i_,i_,i_,i_,i_,i_,i_,i_,i_,i_,i_,i_,i_,i_] (fun f_ wc => ∃ (kq : Nat) (x92_7 : Bool), (f_ 92) = .bool x92_7 ∧ Aside0 (laws_FnRingsMoveOfAll.j0 kq a0 a1 l2 a3 a4 a5 a6 x92_7 = some r) ∧ Aside0 (kq ≤ k) ∧ Aside0 (Below w.heap.size w wc)) ?rest ?first
 case first =>
  intro J_ K_ hJ_ hK_
  have H := HC8.out
  clear HC8
  by_cases c9 : (a0.size : Int) > 1048576
  ·rw [if_pos c9] at H
   have c9b0 : decide (1048576 < (a0.size : Int)) = true := decide_eq_true c9
   have c9b1 : decide (1048576 < a0.size) = true := decide_eq_true (by omega)
   clear c9
   (first | rw [c9b0] | (simp only [i64_w, i32_w]; rw [c9b0]) | skip)
   have H' := Aside0.mk H
   clear H
   go_wp2
   repeat (go_quiet (fail); try go_wp2)
   refine Met.intro (hJ_ _ _ ?mg_ ?rel)
   case mg_ => kernel_rfl
   case rel => exact ⟨_, (true), (by first | rfl | ((conv => lhs; whnf); first | rfl | (simp; done) | (simp [*]; done))), H', ⟨by first | omega | exact Nat.le_refl _⟩, ⟨by repeat (first | (with_reducible first | exact HB.out | apply below_alloc | apply pw_below_drewN | apply below_drew1) | exact HB.out)⟩⟩
  ·rw [if_neg c9] at H
   have c9b0 : decide (1048576 < (a0.size : Int)) = false := decide_eq_false c9
   have c9b1 : decide (1048576 < a0.size) = false := decide_eq_false (by omega)
   clear c9
   (first | rw [c9b0] | (simp only [i64_w, i32_w]; rw [c9b0]) | skip)
   by_cases c10 : (a1.size : Int) > 1048576
   ·rw [if_pos c10] at H
    have c10b0 : decide (1048576 < (a1.size : Int)) = true := decide_eq_true c10
    have c10b1 : decide (1048576 < a1.size) = true := decide_eq_true (by omega)
    clear c10
    have H' := Aside0.mk H
    clear H
    go_wp2
    repeat (go_quiet (fail); try go_wp2)
    refine Met.intro (hJ_ _ _ ?mg_ ?rel)
    case mg_ => kernel_rfl
    case rel => exact ⟨_, (true), (by first | rfl | ((conv => lhs; whnf); first | rfl | (simp; done) | (simp [*]; done))), H', ⟨by first | omega | exact Nat.le_refl _⟩, ⟨by repeat (first | (with_reducible first | exact HB.out | apply below_alloc | apply pw_below_drewN | apply below_drew1) | exact HB.out)⟩⟩
   ·rw [if_neg c10] at H
    have c10b0 : decide (1048576 < (a1.size : Int)) = false := decide_eq_false c10
    have c10b1 : decide (1048576 < a1.size) = false := decide_eq_false (by omega)
    clear c10
    by_cases c11 : (l2.length : Int) > 10000
    ·rw [if_pos c11] at H
     have c11b0 : decide (10000 < (l2.length : Int)) = true := decide_eq_true c11
     have c11b1 : decide (10000 < l2.length) = true := decide_eq_true (by omega)
     clear c11
     have H' := Aside0.mk H
     clear H
     go_wp2
     repeat (go_quiet (fail); try go_wp2)
     refine Met.intro (hJ_ _ _ ?mg_ ?rel)
     case mg_ => kernel_rfl
     case rel => exact ⟨_, (true), (by first | rfl | ((conv => lhs; whnf); first | rfl | (simp; done) | (simp [*]; done))), H', ⟨by first | omega | exact Nat.le_refl _⟩, ⟨by repeat (first | (with_reducible first | exact HB.out | apply below_alloc | apply pw_below_drewN | apply below_drew1) | exact HB.out)⟩⟩
    ·rw [if_neg c11] at H
     have c11b0 : decide (10000 < (l2.length : Int)) = false := decide_eq_false c11
     have c11b1 : decide (10000 < l2.length) = false := decide_eq_false (by omega)
     clear c11
     have H' := Aside0.mk H
     clear H
     go_wp2
     repeat (go_quiet (fail); try go_wp2)
     refine Met.intro (hJ_ _ _ ?mg_ ?rel)
     case mg_ => kernel_rfl
     case rel => exact ⟨_, (decide ((a3.size : Int) > 1048576)), (by first | rfl | ((conv => lhs; whnf); first | rfl | (simp; done) | (simp [*]; done))), H', ⟨by first | omega | exact Nat.le_refl _⟩, ⟨by repeat (first | (with_reducible first | exact HB.out | apply below_alloc | apply pw_below_drewN | apply below_drew1) | exact HB.out)⟩⟩
 case rest =>
  intro f_ wc hcut
  dsimp only [maskF] at hcut ⊢
  generalize f_ 92 = u92 at hcut ⊢
  repeat revert ‹_›
  intro HP0_
  exact HP0_.out

def laws_FnRingsMoveOfAll.c1 : PSigma fun P0_ : Prop => PSigma fun P1_ : Prop => Hole P0_ → Hole P1_ → laws_FnRingsMoveOfAll.c0.1 := by
 refine' ⟨_, _, fun HP0_ HP1_ => _⟩
 rotate_left 2
 intro k a0 a1 A2 c2 l2 a3 a4 a5 a6 r w HR2 HC2 HB HC8 _ _ _ _ _ f_ wc u92 hcut
 clear HC8
 try clear c1
 try clear c2
 try clear p2
 try clear c3
 try clear c9
 try clear c9b0
 try clear c9b1
 try clear c10
 try clear c10b0
 try clear c10b1
 try clear c11
 try clear c11b0
 try clear c11b1
 obtain ⟨kq, x92_7, rfl, HA, HJ7, HB⟩ := hcut
 cases kq with
 | zero => exact absurd HA.out (by simp [laws_FnRingsMoveOfAll.j0])
 | succ kj7 =>
  have H := HA.out
  clear HA
  simp only [laws_FnRingsMoveOfAll.j0] at H
  by_cases c12 : x92_7 = true
  ·subst c12
   rw [if_pos rfl] at H
   have H1 := H
   clear H
   have H := H1
   clear H1
   obtain rfl := Option.some.inj H
   go_wp2
   repeat (go_quiet (fail); try go_wp2)
   go_ret
   exact ⟨by first | rfl | (simp [errW_none, errW_some] <;> rfl) | (simp [*, errW_none, errW_some] <;> rfl), by repeat (first | (with_reducible first | exact HB.out | apply below_alloc | apply pw_below_drewN | apply below_drew1) | exact HB.out)⟩
  ·replace c12 := Bool.eq_false_iff.mpr c12
   subst c12
   rw [if_neg (show ¬ (false = true) by decide)] at H
   have H1 := H
   clear H
   have H := H1
   clear H1
   replace H := Option.bind_eq_some_iff.mp H
   obtain ⟨⟨t201, t202⟩, A130, H⟩ := H
   try dsimp +instances only at H
   replace H := H
   have A13 := Aside0.mk A130
   clear A130
   replace H := Option.bind_eq_some_iff.mp H
   obtain ⟨⟨t205, t206⟩, A140, H⟩ := H
   try dsimp +instances only at H
   replace H := H
   have A14 := Aside0.mk A140
   clear A140
   replace H := Option.bind_eq_some_iff.mp H
   obtain ⟨⟨t209, t210⟩, A150, H⟩ := H
   try dsimp +instances only at H
   replace H := H
   have A15 := Aside0.mk A150
   clear A150
   replace H := Option.bind_eq_some_iff.mp H
   obtain ⟨⟨t211, t212⟩, A160, H⟩ := H
   try dsimp +instances only at H
   replace H := H
   have A16 := Aside0.mk A160
   clear A160
   replace H := Option.bind_eq_some_iff.mp H
   obtain ⟨⟨t213, t214⟩, A170, H⟩ := H
   try dsimp +instances only at H
   replace H := H
   have A17 := Aside0.mk A170
   clear A170
   replace H := Option.bind_eq_some_iff.mp H
   obtain ⟨⟨t215, t216⟩, A180, H⟩ := H
   try dsimp +instances only at H
   replace H := H
   have A18 := Aside0.mk A180
   clear A180
   replace H := Option.bind_eq_some_iff.mp H
   obtain ⟨⟨t217, t218, t219⟩, A190, H⟩ := H
   try dsimp +instances only at H
   replace H := H
   have A19 := Aside0.mk A190
   clear A190
   replace H := Option.bind_eq_some_iff.mp H
   obtain ⟨⟨t222, t223, t224⟩, A200, H⟩ := H
   try dsimp +instances only at H
   replace H := H
   have A20 := Aside0.mk A200
   clear A200
   have HC21 := Aside0.mk H
   clear H
   go_upto_region 11 with (first | (go_at_call 4; (with_reducible refine (impl_MovesOf.calls kj7 a0 t201 t202 _ A13.out).mono ?_); rintro e w22 ⟨v203, rfl, ho0, hb⟩; have n0_ := Aside0.mk (Kd.R_lower ho0 (below_size (by repeat (first | (with_reducible first | exact HB.out | apply below_alloc | apply pw_below_drewN | apply below_drew1) | exact HB.out)))); have n1_ := Aside0.mk (below_step (by repeat (first | (with_reducible first | exact HB.out | apply below_alloc | apply pw_below_drewN | apply below_drew1) | exact HB.out)) hb); clear HB; have HO204 := n0_; have HB := n1_; clear n0_ n1_; (try clear hb); (try clear hb2); (try clear hk); (try clear hi); (try clear ho0)) | (go_at_call 5; (with_reducible refine (spec_MovesOf.calls kj7 a0 t205 t206 _ A14.out).mono ?_); rintro e w23 ⟨v207, rfl, ho0, hb⟩; have n0_ := Aside0.mk (Kd.R_elder' (by (with_reducible repeat (first | apply Kd.R_alloc | apply Kd.R_drewN | apply Kd.R_drew)); exact HO204.out) (Kd.R_base ho0) hb); have n1_ := Aside0.mk (Kd.R_lower (Kd.R_new' ho0 (Kd.R_lt (by (with_reducible repeat (first | apply Kd.R_alloc | apply Kd.R_drewN | apply Kd.R_drew)); exact HO204.out))) (below_size (by repeat (first | (with_reducible first | exact HB.out | apply below_alloc | apply pw_below_drewN | apply below_drew1) | exact HB.out)))); have n2_ := Aside0.mk (below_step (by repeat (first | (with_reducible first | exact HB.out | apply below_alloc | apply pw_below_drewN | apply below_drew1) | exact HB.out)) hb); clear HO204; clear HB; have HO204 := n0_; have HO208 := n1_; have HB := n2_; clear n0_ n1_ n2_; (try clear hb); (try clear hb2); (try clear hk); (try clear hi); (try clear ho0)) | (go_at_call 6; (with_reducible refine (impl_NumberOfState.calls kj7 a0 t209 t210 _ A15.out).mono ?_); rintro e w24 ⟨rfl, hb⟩; have n0_ := Aside0.mk (Kd.R_below (by (with_reducible repeat (first | apply Kd.R_alloc | apply Kd.R_drewN | apply Kd.R_drew)); exact HO204.out) hb); have n1_ := Aside0.mk (Kd.R_below (by (with_reducible repeat (first | apply Kd.R_alloc | apply Kd.R_drewN | apply Kd.R_drew)); exact HO208.out) hb); have n2_ := Aside0.mk (below_step (by repeat (first | (with_reducible first | exact HB.out | apply below_alloc | apply pw_below_drewN | apply below_drew1) | exact HB.out)) hb); clear HO204; clear HO208; clear HB; have HO204 := n0_; have HO208 := n1_; have HB := n2_; clear n0_ n1_ n2_; (try clear hb); (try clear hb2); (try clear hk); (try clear hi)) | (go_at_call 7; (with_reducible refine (spec_NumberOfState.calls kj7 a0 t211 t212 _ A16.out).mono ?_); rintro e w' ⟨rfl, ⟨nd, rfl⟩⟩; (try first | exact ⟨rfl, _, World.drewN_drewN _ _ _⟩ | exact ⟨rfl, _, Eq.trans (World.drewN_drewN _ _ _) (congrArg (World.drewN _) (Nat.add_assoc _ _ _))⟩)) | (go_at_call 8; (with_reducible refine (impl_CountOn.calls a0 t213 t214 _ A17.out).mono ?_); rintro e w25 ⟨rfl, hb⟩; have n0_ := Aside0.mk (Kd.R_below (by (with_reducible repeat (first | apply Kd.R_alloc | apply Kd.R_drewN | apply Kd.R_drew)); exact HO204.out) hb); have n1_ := Aside0.mk (Kd.R_below (by (with_reducible repeat (first | apply Kd.R_alloc | apply Kd.R_drewN | apply Kd.R_drew)); exact HO208.out) hb); have n2_ := Aside0.mk (below_step (by repeat (first | (with_reducible first | exact HB.out | apply below_alloc | apply pw_below_drewN | apply below_drew1) | exact HB.out)) hb); clear HO204; clear HO208; clear HB; have HO204 := n0_; have HO208 := n1_; have HB := n2_; clear n0_ n1_ n2_; (try clear hb); (try clear hb2); (try clear hk); (try clear hi)) | (go_at_call 9; (with_reducible refine (spec_CountOn.calls kj7 a0 t215 t216 _ A18.out).mono ?_); rintro e w' ⟨rfl, ⟨nd, rfl⟩⟩; (try first | exact ⟨rfl, _, World.drewN_drewN _ _ _⟩ | exact ⟨rfl, _, Eq.trans (World.drewN_drewN _ _ _) (congrArg (World.drewN _) (Nat.add_assoc _ _ _))⟩)) | (go_at_call 10; (with_reducible refine (impl_FarthestFrom.calls kj7 a0 t217 t218 t219 _ A19.out).mono ?_); rintro e w26 ⟨v220, rfl, ho0, hb⟩; have n0_ := Aside0.mk (Kd.R_below (by (with_reducible repeat (first | apply Kd.R_alloc | apply Kd.R_drewN | apply Kd.R_drew)); exact HO204.out) hb); have n1_ := Aside0.mk (Kd.R_below (by (with_reducible repeat (first | apply Kd.R_alloc | apply Kd.R_drewN | apply Kd.R_drew)); exact HO208.out) hb); have n2_ := Aside0.mk (Kd.R_lower ho0 (below_size (by repeat (first | (with_reducible first | exact HB.out | apply below_alloc | apply pw_below_drewN | apply below_drew1) | exact HB.out)))); have n3_ := Aside0.mk (below_step (by repeat (first | (with_reducible first | exact HB.out | apply below_alloc | apply pw_below_drewN | apply below_drew1) | exact HB.out)) hb); clear HO204; clear HO208; clear HB; have HO204 := n0_; have HO208 := n1_; have HO221 := n2_; have HB := n3_; clear n0_ n1_ n2_ n3_; (try clear hb); (try clear hb2); (try clear hk); (try clear hi); (try clear ho0)) | (go_at_call 11; (with_reducible refine (spec_FarthestFrom.calls kj7 a0 t222 t223 t224 _ A20.out).mono ?_); rintro e w27 ⟨v225, rfl, ho0, hb⟩; have n0_ := Aside0.mk (Kd.R_below (by (with_reducible repeat (first | apply Kd.R_alloc | apply Kd.R_drewN | apply Kd.R_drew)); exact HO204.out) hb); have n1_ := Aside0.mk (Kd.R_below (by (with_reducible repeat (first | apply Kd.R_alloc | apply Kd.R_drewN | apply Kd.R_drew)); exact HO208.out) hb); have n2_ := Aside0.mk (Kd.R_elder' (by (with_reducible repeat (first | apply Kd.R_alloc | apply Kd.R_drewN | apply Kd.R_drew)); exact HO221.out) (Kd.R_base ho0) hb); have n3_ := Aside0.mk (Kd.R_lower (Kd.R_new' ho0 (Kd.R_lt (by (with_reducible repeat (first | apply Kd.R_alloc | apply Kd.R_drewN | apply Kd.R_drew)); exact HO221.out))) (below_size (by repeat (first | (with_reducible first | exact HB.out | apply below_alloc | apply pw_below_drewN | apply below_drew1) | exact HB.out)))); have n4_ := Aside0.mk (below_step (by repeat (first | (with_reducible first | exact HB.out | apply below_alloc | apply pw_below_drewN | apply below_drew1) | exact HB.out)) hb); clear HO204; clear HO208; clear HO221; clear HB; have HO204 := n0_; have HO208 := n1_; have HO221 := n2_; have HO226 := n3_; have HB := n4_; clear n0_ n1_ n2_ n3_ n4_; (try clear hb); (try clear hb2); (try clear hk); (try clear hi); (try clear ho0)))
   repeat (go_quiet (first | (go_at_call 4; (with_reducible refine (impl_MovesOf.calls kj7 a0 t201 t202 _ A13.out).mono ?_); rintro e w22 ⟨v203, rfl, ho0, hb⟩; have n0_ := Aside0.mk (Kd.R_lower ho0 (below_size (by repeat (first | (with_reducible first | exact HB.out | apply below_alloc | apply pw_below_drewN | apply below_drew1) | exact HB.out)))); have n1_ := Aside0.mk (below_step (by repeat (first | (with_reducible first | exact HB.out | apply below_alloc | apply pw_below_drewN | apply below_drew1) | exact HB.out)) hb); clear HB; have HO204 := n0_; have HB := n1_; clear n0_ n1_; (try clear hb); (try clear hb2); (try clear hk); (try clear hi); (try clear ho0)) | (go_at_call 5; (with_reducible refine (spec_MovesOf.calls kj7 a0 t205 t206 _ A14.out).mono ?_); rintro e w23 ⟨v207, rfl, ho0, hb⟩; have n0_ := Aside0.mk (Kd.R_elder' (by (with_reducible repeat (first | apply Kd.R_alloc | apply Kd.R_drewN | apply Kd.R_drew)); exact HO204.out) (Kd.R_base ho0) hb); have n1_ := Aside0.mk (Kd.R_lower (Kd.R_new' ho0 (Kd.R_lt (by (with_reducible repeat (first | apply Kd.R_alloc | apply Kd.R_drewN | apply Kd.R_drew)); exact HO204.out))) (below_size (by repeat (first | (with_reducible first | exact HB.out | apply below_alloc | apply pw_below_drewN | apply below_drew1) | exact HB.out)))); have n2_ := Aside0.mk (below_step (by repeat (first | (with_reducible first | exact HB.out | apply below_alloc | apply pw_below_drewN | apply below_drew1) | exact HB.out)) hb); clear HO204; clear HB; have HO204 := n0_; have HO208 := n1_; have HB := n2_; clear n0_ n1_ n2_; (try clear hb); (try clear hb2); (try clear hk); (try clear hi); (try clear ho0)) | (go_at_call 6; (with_reducible refine (impl_NumberOfState.calls kj7 a0 t209 t210 _ A15.out).mono ?_); rintro e w24 ⟨rfl, hb⟩; have n0_ := Aside0.mk (Kd.R_below (by (with_reducible repeat (first | apply Kd.R_alloc | apply Kd.R_drewN | apply Kd.R_drew)); exact HO204.out) hb); have n1_ := Aside0.mk (Kd.R_below (by (with_reducible repeat (first | apply Kd.R_alloc | apply Kd.R_drewN | apply Kd.R_drew)); exact HO208.out) hb); have n2_ := Aside0.mk (below_step (by repeat (first | (with_reducible first | exact HB.out | apply below_alloc | apply pw_below_drewN | apply below_drew1) | exact HB.out)) hb); clear HO204; clear HO208; clear HB; have HO204 := n0_; have HO208 := n1_; have HB := n2_; clear n0_ n1_ n2_; (try clear hb); (try clear hb2); (try clear hk); (try clear hi)) | (go_at_call 7; (with_reducible refine (spec_NumberOfState.calls kj7 a0 t211 t212 _ A16.out).mono ?_); rintro e w' ⟨rfl, ⟨nd, rfl⟩⟩; (try first | exact ⟨rfl, _, World.drewN_drewN _ _ _⟩ | exact ⟨rfl, _, Eq.trans (World.drewN_drewN _ _ _) (congrArg (World.drewN _) (Nat.add_assoc _ _ _))⟩)) | (go_at_call 8; (with_reducible refine (impl_CountOn.calls a0 t213 t214 _ A17.out).mono ?_); rintro e w25 ⟨rfl, hb⟩; have n0_ := Aside0.mk (Kd.R_below (by (with_reducible repeat (first | apply Kd.R_alloc | apply Kd.R_drewN | apply Kd.R_drew)); exact HO204.out) hb); have n1_ := Aside0.mk (Kd.R_below (by (with_reducible repeat (first | apply Kd.R_alloc | apply Kd.R_drewN | apply Kd.R_drew)); exact HO208.out) hb); have n2_ := Aside0.mk (below_step (by repeat (first | (with_reducible first | exact HB.out | apply below_alloc | apply pw_below_drewN | apply below_drew1) | exact HB.out)) hb); clear HO204; clear HO208; clear HB; have HO204 := n0_; have HO208 := n1_; have HB := n2_; clear n0_ n1_ n2_; (try clear hb); (try clear hb2); (try clear hk); (try clear hi)) | (go_at_call 9; (with_reducible refine (spec_CountOn.calls kj7 a0 t215 t216 _ A18.out).mono ?_); rintro e w' ⟨rfl, ⟨nd, rfl⟩⟩; (try first | exact ⟨rfl, _, World.drewN_drewN _ _ _⟩ | exact ⟨rfl, _, Eq.trans (World.drewN_drewN _ _ _) (congrArg (World.drewN _) (Nat.add_assoc _ _ _))⟩)) | (go_at_call 10; (with_reducible refine (impl_FarthestFrom.calls kj7 a0 t217 t218 t219 _ A19.out).mono ?_); rintro e w26 ⟨v220, rfl, ho0, hb⟩; have n0_ := Aside0.mk (Kd.R_below (by (with_reducible repeat (first | apply Kd.R_alloc | apply Kd.R_drewN | apply Kd.R_drew)); exact HO204.out) hb); have n1_ := Aside0.mk (Kd.R_below (by (with_reducible repeat (first | apply Kd.R_alloc | apply Kd.R_drewN | apply Kd.R_drew)); exact HO208.out) hb); have n2_ := Aside0.mk (Kd.R_lower ho0 (below_size (by repeat (first | (with_reducible first | exact HB.out | apply below_alloc | apply pw_below_drewN | apply below_drew1) | exact HB.out)))); have n3_ := Aside0.mk (below_step (by repeat (first | (with_reducible first | exact HB.out | apply below_alloc | apply pw_below_drewN | apply below_drew1) | exact HB.out)) hb); clear HO204; clear HO208; clear HB; have HO204 := n0_; have HO208 := n1_; have HO221 := n2_; have HB := n3_; clear n0_ n1_ n2_ n3_; (try clear hb); (try clear hb2); (try clear hk); (try clear hi); (try clear ho0)) | (go_at_call 11; (with_reducible refine (spec_FarthestFrom.calls kj7 a0 t222 t223 t224 _ A20.out).mono ?_); rintro e w27 ⟨v225, rfl, ho0, hb⟩; have n0_ := Aside0.mk (Kd.R_below (by (with_reducible repeat (first | apply Kd.R_alloc | apply Kd.R_drewN | apply Kd.R_drew)); exact HO204.out) hb); have n1_ := Aside0.mk (Kd.R_below (by (with_reducible repeat (first | apply Kd.R_alloc | apply Kd.R_drewN | apply Kd.R_drew)); exact HO208.out) hb); have n2_ := Aside0.mk (Kd.R_elder' (by (with_reducible repeat (first | apply Kd.R_alloc | apply Kd.R_drewN | apply Kd.R_drew)); exact HO221.out) (Kd.R_base ho0) hb); have n3_ := Aside0.mk (Kd.R_lower (Kd.R_new' ho0 (Kd.R_lt (by (with_reducible repeat (first | apply Kd.R_alloc | apply Kd.R_drewN | apply Kd.R_drew)); exact HO221.out))) (below_size (by repeat (first | (with_reducible first | exact HB.out | apply below_alloc | apply pw_below_drewN | apply below_drew1) | exact HB.out)))); have n4_ := Aside0.mk (below_step (by repeat (first | (with_reducible first | exact HB.out | apply below_alloc | apply pw_below_drewN | apply below_drew1) | exact HB.out)) hb); clear HO204; clear HO208; clear HO221; clear HB; have HO204 := n0_; have HO208 := n1_; have HO221 := n2_; have HO226 := n3_; have HB := n4_; clear n0_ n1_ n2_ n3_ n4_; (try clear hb); (try clear hb2); (try clear hk); (try clear hi); (try clear ho0))); go_upto_region 11 with (first | (go_at_call 4; (with_reducible refine (impl_MovesOf.calls kj7 a0 t201 t202 _ A13.out).mono ?_); rintro e w22 ⟨v203, rfl, ho0, hb⟩; have n0_ := Aside0.mk (Kd.R_lower ho0 (below_size (by repeat (first | (with_reducible first | exact HB.out | apply below_alloc | apply pw_below_drewN | apply below_drew1) | exact HB.out)))); have n1_ := Aside0.mk (below_step (by repeat (first | (with_reducible first | exact HB.out | apply below_alloc | apply pw_below_drewN | apply below_drew1) | exact HB.out)) hb); clear HB; have HO204 := n0_; have HB := n1_; clear n0_ n1_; (try clear hb); (try clear hb2); (try clear hk); (try clear hi); (try clear ho0)) | (go_at_call 5; (with_reducible refine (spec_MovesOf.calls kj7 a0 t205 t206 _ A14.out).mono ?_); rintro e w23 ⟨v207, rfl, ho0, hb⟩; have n0_ := Aside0.mk (Kd.R_elder' (by (with_reducible repeat (first | apply Kd.R_alloc | apply Kd.R_drewN | apply Kd.R_drew)); exact HO204.out) (Kd.R_base ho0) hb); have n1_ := Aside0.mk (Kd.R_lower (Kd.R_new' ho0 (Kd.R_lt (by (with_reducible repeat (first | apply Kd.R_alloc | apply Kd.R_drewN | apply Kd.R_drew)); exact HO204.out))) (below_size (by repeat (first | (with_reducible first | exact HB.out | apply below_alloc | apply pw_below_drewN | apply below_drew1) | exact HB.out)))); have n2_ := Aside0.mk (below_step (by repeat (first | (with_reducible first | exact HB.out | apply below_alloc | apply pw_below_drewN | apply below_drew1) | exact HB.out)) hb); clear HO204; clear HB; have HO204 := n0_; have HO208 := n1_; have HB := n2_; clear n0_ n1_ n2_; (try clear hb); (try clear hb2); (try clear hk); (try clear hi); (try clear ho0)) | (go_at_call 6; (with_reducible refine (impl_NumberOfState.calls kj7 a0 t209 t210 _ A15.out).mono ?_); rintro e w24 ⟨rfl, hb⟩; have n0_ := Aside0.mk (Kd.R_below (by (with_reducible repeat (first | apply Kd.R_alloc | apply Kd.R_drewN | apply Kd.R_drew)); exact HO204.out) hb); have n1_ := Aside0.mk (Kd.R_below (by (with_reducible repeat (first | apply Kd.R_alloc | apply Kd.R_drewN | apply Kd.R_drew)); exact HO208.out) hb); have n2_ := Aside0.mk (below_step (by repeat (first | (with_reducible first | exact HB.out | apply below_alloc | apply pw_below_drewN | apply below_drew1) | exact HB.out)) hb); clear HO204; clear HO208; clear HB; have HO204 := n0_; have HO208 := n1_; have HB := n2_; clear n0_ n1_ n2_; (try clear hb); (try clear hb2); (try clear hk); (try clear hi)) | (go_at_call 7; (with_reducible refine (spec_NumberOfState.calls kj7 a0 t211 t212 _ A16.out).mono ?_); rintro e w' ⟨rfl, ⟨nd, rfl⟩⟩; (try first | exact ⟨rfl, _, World.drewN_drewN _ _ _⟩ | exact ⟨rfl, _, Eq.trans (World.drewN_drewN _ _ _) (congrArg (World.drewN _) (Nat.add_assoc _ _ _))⟩)) | (go_at_call 8; (with_reducible refine (impl_CountOn.calls a0 t213 t214 _ A17.out).mono ?_); rintro e w25 ⟨rfl, hb⟩; have n0_ := Aside0.mk (Kd.R_below (by (with_reducible repeat (first | apply Kd.R_alloc | apply Kd.R_drewN | apply Kd.R_drew)); exact HO204.out) hb); have n1_ := Aside0.mk (Kd.R_below (by (with_reducible repeat (first | apply Kd.R_alloc | apply Kd.R_drewN | apply Kd.R_drew)); exact HO208.out) hb); have n2_ := Aside0.mk (below_step (by repeat (first | (with_reducible first | exact HB.out | apply below_alloc | apply pw_below_drewN | apply below_drew1) | exact HB.out)) hb); clear HO204; clear HO208; clear HB; have HO204 := n0_; have HO208 := n1_; have HB := n2_; clear n0_ n1_ n2_; (try clear hb); (try clear hb2); (try clear hk); (try clear hi)) | (go_at_call 9; (with_reducible refine (spec_CountOn.calls kj7 a0 t215 t216 _ A18.out).mono ?_); rintro e w' ⟨rfl, ⟨nd, rfl⟩⟩; (try first | exact ⟨rfl, _, World.drewN_drewN _ _ _⟩ | exact ⟨rfl, _, Eq.trans (World.drewN_drewN _ _ _) (congrArg (World.drewN _) (Nat.add_assoc _ _ _))⟩)) | (go_at_call 10; (with_reducible refine (impl_FarthestFrom.calls kj7 a0 t217 t218 t219 _ A19.out).mono ?_); rintro e w26 ⟨v220, rfl, ho0, hb⟩; have n0_ := Aside0.mk (Kd.R_below (by (with_reducible repeat (first | apply Kd.R_alloc | apply Kd.R_drewN | apply Kd.R_drew)); exact HO204.out) hb); have n1_ := Aside0.mk (Kd.R_below (by (with_reducible repeat (first | apply Kd.R_alloc | apply Kd.R_drewN | apply Kd.R_drew)); exact HO208.out) hb); have n2_ := Aside0.mk (Kd.R_lower ho0 (below_size (by repeat (first | (with_reducible first | exact HB.out | apply below_alloc | apply pw_below_drewN | apply below_drew1) | exact HB.out)))); have n3_ := Aside0.mk (below_step (by repeat (first | (with_reducible first | exact HB.out | apply below_alloc | apply pw_below_drewN | apply below_drew1) | exact HB.out)) hb); clear HO204; clear HO208; clear HB; have HO204 := n0_; have HO208 := n1_; have HO221 := n2_; have HB := n3_; clear n0_ n1_ n2_ n3_; (try clear hb); (try clear hb2); (try clear hk); (try clear hi); (try clear ho0)) | (go_at_call 11; (with_reducible refine (spec_FarthestFrom.calls kj7 a0 t222 t223 t224 _ A20.out).mono ?_); rintro e w27 ⟨v225, rfl, ho0, hb⟩; have n0_ := Aside0.mk (Kd.R_below (by (with_reducible repeat (first | apply Kd.R_alloc | apply Kd.R_drewN | apply Kd.R_drew)); exact HO204.out) hb); have n1_ := Aside0.mk (Kd.R_below (by (with_reducible repeat (first | apply Kd.R_alloc | apply Kd.R_drewN | apply Kd.R_drew)); exact HO208.out) hb); have n2_ := Aside0.mk (Kd.R_elder' (by (with_reducible repeat (first | apply Kd.R_alloc | apply Kd.R_drewN | apply Kd.R_drew)); exact HO221.out) (Kd.R_base ho0) hb); have n3_ := Aside0.mk (Kd.R_lower (Kd.R_new' ho0 (Kd.R_lt (by (with_reducible repeat (first | apply Kd.R_alloc | apply Kd.R_drewN | apply Kd.R_drew)); exact HO221.out))) (below_size (by repeat (first | (with_reducible first | exact HB.out | apply below_alloc | apply pw_below_drewN | apply below_drew1) | exact HB.out)))); have n4_ := Aside0.mk (below_step (by repeat (first | (with_reducible first | exact HB.out | apply below_alloc | apply pw_below_drewN | apply below_drew1) | exact HB.out)) hb); clear HO204; clear HO208; clear HO221; clear HB; have HO204 := n0_; have HO208 := n1_; have HO221 := n2_; have HO226 := n3_; have HB := n4_; clear n0_ n1_ n2_ n3_ n4_; (try clear hb); (try clear hb2); (try clear hk); (try clear hi); (try clear ho0))))
   (try simp only [Act.put, List.setIfInBounds_toArray, List.set_cons_zero, List.set_cons_succ])
   refine wp_cutF [o_,o_,o_,o_,o_,o_,o_,o_,o_,o_,o_,o_,o_,o_,o_,o_,o_,o_,o_,o_,o_,o_,o_,o_,o_,o_,o_,o_,o_,o_,o_,o_,o_,o_,o_,o_,o_,o_,o_,o_,o_,o_,o_,o_,o_,o_,o_,o_,o_,o_,o_,o_,o_,o_,o_,o_,o_,o_,o_,o_,o_,o_,o_,o_,o_,o_,o_,o_,o_,o_,o_,o_,o_,o_,o_,i_,i_,i_,i_,i_,i_,i_,i_,i_,i_,i_,i_,i_,i_,i_,i_,i_,i_,i_,i_,i_,i_,i_,i_,i_,i_,i_,i_,i_,i_,i_,i_,i_,i_,i_,i_,i_,i_,i_,i_,i_,i_,i_,i_,i_,i_,i_,i_,i_,i_,i_,i_,i_,i_,i_,i_,i_,i_,i_,i_,i_,i_,i_,i_,i_,i_,i_,i_,i_,i_,i_,i_,i_,i_,i_,i_,i_,i_,i_,i_,i_,i_,i_,i_,i_,i_,i_,i_,i_,i_,i_,i_,i_,i_,i_,i_,i_,i_,i_,i_,i_,i_,i_,i_,i_,i_,i_,i_,i_,i_,i_,i_,i_,i_,i_,i_,i_,i_,i_,i_,i_,i_,i_,i_,i_,i_,i_,i_,i_,i_,i_,i_,i_,i_,i_,i_,i_,i_,i_,i_,i_,i_,i_,i_,i_,i_,i_,i_,i_,i_,i_,i_,i_,i_,i_,i_,i_,i_,i_,i_,i_,i_,i_,i_,i_,i_,i_,i_,i_,i_,i_,i_,i_,i_,i_,i_,i_,i_,i_,i_,i_,i_,i_,i_,i_,i_,i_,i_,i_,i_,i_,i_,i_,i_,i_,i_,i_,i_,i_,i_,i_,o_,o_,o_,i_,i_,i_,i_,i_,i_,i_,i_,i_,i_,i_,i_,i_,i_,i_,i_,i_,i_,i_,i_,i_,i_,i_,i_,i_,i_,i_,i_,i_,i_,i_,i_,i_,i_,i_,i_,i_,i_,i_,i_,i_,i_,i_,o_,o_,i_,i_,i_,i_,i_,i_,i_,i_,i_,i_,i_,i_,i_,i_,o_,o_,o_,i_,i_,i_,i_,i_,i_,i_,i_,i_,i_,i_,i_,i_,i_,i_,i_,i_,i_,i_,i_,i_,i_,i_,i_,i_,i_,i_,i_,i_,i_,i_,i_,i_,i_,i_,i_,i_,i_,i_,i_,i_,i_,i_,i_,i_,i_,i_,i_,i_,i_,i_,i_,i_,i_,i_,i_,i_,i_,i_,i_,i_,i_,i_,i_,i_,i_,i_,i_,i_,i_,i_,i_,i_,i_,i_,i_,i_,i_,i_,i_,i_,i_,i_,i_,i_,i_,i_,i_,i_,i_,i_,i_,i_,i_,i_,i_,i_,i_,i_,i_,i_,i_,i_,i_,i_,i_,i_,i_,i_,i_,i_,o_,o_,o_,i_,i_,i_,i_,i_,i_,i_,i_,i_,i_,i_,i_,i_,i_,i_,i_,i_,i_,i_,i_,i_,i_,i_,i_,i_,i_,i_,i_,i_,i_,i_,i_,i_,i_,i_,i_,i_,i_,i_,i_,i_,i_,i_,i_,i_,i_,i_,i_,i_,i_,i_,i_,i_,i_,i_] (fun f_ wc => ∃ (kq : Nat) (x207_20 : Bool), (f_ 207) = .bool x207_20 ∧ Aside0 (laws_FnRingsMoveOfAll.j1 kq a0 a1 l2 a3 a4 a5 a6 t201 t202 t209 t217 t218 x207_20 = some r) ∧ Aside0 (kq ≤ kj7) ∧ Aside0 (Kd.R (Kd.int .i64) 3 wc w.heap.size (fun _ => True) v203 t201) ∧ Aside0 (Kd.R Kd.string 9 wc w.heap.size (fun _ => True) v220 t217) ∧ Aside0 (Below w.heap.size w wc)) ?rest ?first
   case first =>
    intro J_ K_ hJ_ hK_
    repeat revert ‹_›
    intro HP0_ HP1_
    exact HP0_.out
   case rest =>
    intro f_ wc hcut
    dsimp only [maskF] at hcut ⊢
    generalize f_ 207 = u207 at hcut ⊢
    repeat revert ‹_›
    intro HP0_ HP1_
    exact HP1_.out

def laws_FnRingsMoveOfAll.c2 : PSigma fun P0_ : Prop => Hole P0_ → laws_FnRingsMoveOfAll.c1.1 := by
 refine' ⟨_, fun HP0_ => _⟩
 rotate_left 1
 intro k a0 a1 A2 c2 l2 a3 a4 a5 a6 r w HR2 HC2 _ _ f_ wc kj7 HJ7 t201 t202 A13 t205 t206 A14 t209 t210 A15 t211 t212 A16 t213 t214 A17 t215 t216 A18 t217 t218 t219 A19 t222 t223 t224 A20 HC21 w22 v203 w23 v207 w24 _ w25 nd w26 v220 w27 v225 HO204 HO208 HO221 HO226 HB _ _ _ _ J_ K_ hJ_ hK_
 have H := HC21.out
 clear HC21
 by_cases c28 : (t202 != t206) = true
 ·rw [if_pos c28] at H
  have c28b0 : (t202 != t206) = true := c28
  (try (have c28b1 : decide (t202 = t206) = false := by simpa using c28))
  (try (have c28b2 : (t202 == t206) = false := by simpa using c28))
  (try (have c28b3 : ¬ (t202 = t206) := by simpa using c28))
  clear c28
  (first | rw [c28b0] | (simp only [i64_w, i32_w]; rw [c28b0]) | skip)
  have H' := Aside0.mk H
  clear H
  go_wp2
  repeat (go_quiet (fail); try go_wp2)
  refine Met.intro (hJ_ _ _ ?mg_ ?rel)
  case mg_ => kernel_rfl
  case rel => exact ⟨_, (true), (by first | rfl | ((conv => lhs; whnf); first | rfl | (simp; done) | (simp [*]; done))), H', ⟨by have := HJ7.out; first | omega | exact Nat.le_refl _⟩, ⟨by (with_reducible repeat (first | apply Kd.R_alloc | apply Kd.R_drewN | apply Kd.R_drew)); exact Kd.R_mono HO204.out (fun _ hk => trivial)⟩, ⟨by (with_reducible repeat (first | apply Kd.R_alloc | apply Kd.R_drewN | apply Kd.R_drew)); exact Kd.R_mono HO221.out (fun _ hk => trivial)⟩, ⟨by repeat (first | (with_reducible first | exact HB.out | apply below_alloc | apply pw_below_drewN | apply below_drew1) | exact HB.out)⟩⟩
 ·rw [if_neg c28] at H
  have c28b0 : (t202 != t206) = false := by simpa using c28
  (try (have c28b1 : decide (t202 = t206) = true := by simpa using c28))
  (try (have c28b2 : (t202 == t206) = true := by simpa using c28))
  clear c28
  (try (have c28e : t202 = t206 := by first | simpa using c28b0 | (simpa using (bne_eq_false_iff_eq.mp c28b0).symm)); (subst c28e))
  (first | rw [c28b0] | (simp only [i64_w, i32_w]; rw [c28b0]) | skip)
  replace H := Option.bind_eq_some_iff.mp H
  obtain ⟨t227, A290, H⟩ := H
  try dsimp +instances only at H
  replace H := H
  have A29 := Aside0.mk A290
  clear A290
  by_cases c30 : t227 = true
  ·subst c30
   rw [if_pos rfl] at H
   have H1 := H
   clear H
   have H := H1
   clear H1
   by_cases c31 : (t210 != t212) = true
   ·rw [if_pos c31] at H
    have c31b0 : (t210 != t212) = true := c31
    (try (have c31b1 : decide (t210 = t212) = false := by simpa using c31))
    (try (have c31b2 : (t210 == t212) = false := by simpa using c31))
    (try (have c31b3 : ¬ (t210 = t212) := by simpa using c31))
    clear c31
    have H' := Aside0.mk H
    clear H
    obtain ⟨Ao32, co32, eo32⟩ := Kd.R_slice HO204.out
    subst eo32
    obtain ⟨Ao33, co33, eo33⟩ := Kd.R_slice HO208.out
    subst eo33
    go_wp2_with (first | (go_at_call 12; (with_reducible refine (laws_ySame.calls kj7 _ _ t201 _ _ t205 true _ ?side1 ?side2 ?side3 ?side4 A29.out).mono ?_); (case side1 => repeat (first | exact (Kd.R_reads' HO204.out).2.2 | (with_reducible refine Kd.C_alloc ?_ _) | (with_reducible refine Kd.C_drewN ?_ _) | (with_reducible refine Kd.C_drew ?_))); (case side2 => exact (Kd.R_reads' HO204.out).2.1); (case side3 => repeat (first | exact (Kd.R_reads' HO208.out).2.2 | (with_reducible refine Kd.C_alloc ?_ _) | (with_reducible refine Kd.C_drewN ?_ _) | (with_reducible refine Kd.C_drew ?_))); (case side4 => exact (Kd.R_reads' HO208.out).2.1); rintro e w' ⟨rfl, ⟨nd, rfl⟩⟩; (try first | exact ⟨rfl, _, World.drewN_drewN _ _ _⟩ | exact ⟨rfl, _, Eq.trans (World.drewN_drewN _ _ _) (congrArg (World.drewN _) (Nat.add_assoc _ _ _))⟩)))
    repeat (go_quiet (first | (go_at_call 12; (with_reducible refine (laws_ySame.calls kj7 _ _ t201 _ _ t205 true _ ?side1 ?side2 ?side3 ?side4 A29.out).mono ?_); (case side1 => repeat (first | exact (Kd.R_reads' HO204.out).2.2 | (with_reducible refine Kd.C_alloc ?_ _) | (with_reducible refine Kd.C_drewN ?_ _) | (with_reducible refine Kd.C_drew ?_))); (case side2 => exact (Kd.R_reads' HO204.out).2.1); (case side3 => repeat (first | exact (Kd.R_reads' HO208.out).2.2 | (with_reducible refine Kd.C_alloc ?_ _) | (with_reducible refine Kd.C_drewN ?_ _) | (with_reducible refine Kd.C_drew ?_))); (case side4 => exact (Kd.R_reads' HO208.out).2.1); rintro e w' ⟨rfl, ⟨nd, rfl⟩⟩; (try first | exact ⟨rfl, _, World.drewN_drewN _ _ _⟩ | exact ⟨rfl, _, Eq.trans (World.drewN_drewN _ _ _) (congrArg (World.drewN _) (Nat.add_assoc _ _ _))⟩))); try go_wp2_with (first | (go_at_call 12; (with_reducible refine (laws_ySame.calls kj7 _ _ t201 _ _ t205 true _ ?side1 ?side2 ?side3 ?side4 A29.out).mono ?_); (case side1 => repeat (first | exact (Kd.R_reads' HO204.out).2.2 | (with_reducible refine Kd.C_alloc ?_ _) | (with_reducible refine Kd.C_drewN ?_ _) | (with_reducible refine Kd.C_drew ?_))); (case side2 => exact (Kd.R_reads' HO204.out).2.1); (case side3 => repeat (first | exact (Kd.R_reads' HO208.out).2.2 | (with_reducible refine Kd.C_alloc ?_ _) | (with_reducible refine Kd.C_drewN ?_ _) | (with_reducible refine Kd.C_drew ?_))); (case side4 => exact (Kd.R_reads' HO208.out).2.1); rintro e w' ⟨rfl, ⟨nd, rfl⟩⟩; (try first | exact ⟨rfl, _, World.drewN_drewN _ _ _⟩ | exact ⟨rfl, _, Eq.trans (World.drewN_drewN _ _ _) (congrArg (World.drewN _) (Nat.add_assoc _ _ _))⟩))))
    refine Met.intro (hJ_ _ _ ?mg_ ?rel)
    case mg_ => kernel_rfl
    case rel => exact ⟨_, (true), (by first | rfl | ((conv => lhs; whnf); first | rfl | (simp; done) | (simp [*]; done))), H', ⟨by have := HJ7.out; first | omega | exact Nat.le_refl _⟩, ⟨by (with_reducible repeat (first | apply Kd.R_alloc | apply Kd.R_drewN | apply Kd.R_drew)); exact Kd.R_mono HO204.out (fun _ hk => trivial)⟩, ⟨by (with_reducible repeat (first | apply Kd.R_alloc | apply Kd.R_drewN | apply Kd.R_drew)); exact Kd.R_mono HO221.out (fun _ hk => trivial)⟩, ⟨by repeat (first | (with_reducible first | exact HB.out | apply below_alloc | apply pw_below_drewN | apply below_drew1) | exact HB.out)⟩⟩
   ·rw [if_neg c31] at H
    have c31b0 : (t210 != t212) = false := by simpa using c31
    (try (have c31b1 : decide (t210 = t212) = true := by simpa using c31))
    (try (have c31b2 : (t210 == t212) = true := by simpa using c31))
    clear c31
    (try (have c31e : t210 = t212 := by first | simpa using c31b0 | (simpa using (bne_eq_false_iff_eq.mp c31b0).symm)); (subst c31e))
    by_cases c34 : t209 = t211
    ·rw [if_pos c34] at H
     have c34b0 : (t209 == t211) = true := beq_iff_eq.mpr c34
     have c34b1 : (t209 != t211) = false := bne_eq_false_iff_eq.mpr c34
     clear c34
     by_cases c35 : (t214 != t216) = true
     ·rw [if_pos c35] at H
      have c35b0 : (t214 != t216) = true := c35
      (try (have c35b1 : decide (t214 = t216) = false := by simpa using c35))
      (try (have c35b2 : (t214 == t216) = false := by simpa using c35))
      (try (have c35b3 : ¬ (t214 = t216) := by simpa using c35))
      clear c35
      have H' := Aside0.mk H
      clear H
      obtain ⟨Ao36, co36, eo36⟩ := Kd.R_slice HO204.out
      subst eo36
      obtain ⟨Ao37, co37, eo37⟩ := Kd.R_slice HO208.out
      subst eo37
      go_wp2_with (first | (go_at_call 12; (with_reducible refine (laws_ySame.calls kj7 _ _ t201 _ _ t205 true _ ?side1 ?side2 ?side3 ?side4 A29.out).mono ?_); (case side1 => repeat (first | exact (Kd.R_reads' HO204.out).2.2 | (with_reducible refine Kd.C_alloc ?_ _) | (with_reducible refine Kd.C_drewN ?_ _) | (with_reducible refine Kd.C_drew ?_))); (case side2 => exact (Kd.R_reads' HO204.out).2.1); (case side3 => repeat (first | exact (Kd.R_reads' HO208.out).2.2 | (with_reducible refine Kd.C_alloc ?_ _) | (with_reducible refine Kd.C_drewN ?_ _) | (with_reducible refine Kd.C_drew ?_))); (case side4 => exact (Kd.R_reads' HO208.out).2.1); rintro e w' ⟨rfl, ⟨nd, rfl⟩⟩; (try first | exact ⟨rfl, _, World.drewN_drewN _ _ _⟩ | exact ⟨rfl, _, Eq.trans (World.drewN_drewN _ _ _) (congrArg (World.drewN _) (Nat.add_assoc _ _ _))⟩)))
      repeat (go_quiet (first | (go_at_call 12; (with_reducible refine (laws_ySame.calls kj7 _ _ t201 _ _ t205 true _ ?side1 ?side2 ?side3 ?side4 A29.out).mono ?_); (case side1 => repeat (first | exact (Kd.R_reads' HO204.out).2.2 | (with_reducible refine Kd.C_alloc ?_ _) | (with_reducible refine Kd.C_drewN ?_ _) | (with_reducible refine Kd.C_drew ?_))); (case side2 => exact (Kd.R_reads' HO204.out).2.1); (case side3 => repeat (first | exact (Kd.R_reads' HO208.out).2.2 | (with_reducible refine Kd.C_alloc ?_ _) | (with_reducible refine Kd.C_drewN ?_ _) | (with_reducible refine Kd.C_drew ?_))); (case side4 => exact (Kd.R_reads' HO208.out).2.1); rintro e w' ⟨rfl, ⟨nd, rfl⟩⟩; (try first | exact ⟨rfl, _, World.drewN_drewN _ _ _⟩ | exact ⟨rfl, _, Eq.trans (World.drewN_drewN _ _ _) (congrArg (World.drewN _) (Nat.add_assoc _ _ _))⟩))); try go_wp2_with (first | (go_at_call 12; (with_reducible refine (laws_ySame.calls kj7 _ _ t201 _ _ t205 true _ ?side1 ?side2 ?side3 ?side4 A29.out).mono ?_); (case side1 => repeat (first | exact (Kd.R_reads' HO204.out).2.2 | (with_reducible refine Kd.C_alloc ?_ _) | (with_reducible refine Kd.C_drewN ?_ _) | (with_reducible refine Kd.C_drew ?_))); (case side2 => exact (Kd.R_reads' HO204.out).2.1); (case side3 => repeat (first | exact (Kd.R_reads' HO208.out).2.2 | (with_reducible refine Kd.C_alloc ?_ _) | (with_reducible refine Kd.C_drewN ?_ _) | (with_reducible refine Kd.C_drew ?_))); (case side4 => exact (Kd.R_reads' HO208.out).2.1); rintro e w' ⟨rfl, ⟨nd, rfl⟩⟩; (try first | exact ⟨rfl, _, World.drewN_drewN _ _ _⟩ | exact ⟨rfl, _, Eq.trans (World.drewN_drewN _ _ _) (congrArg (World.drewN _) (Nat.add_assoc _ _ _))⟩))))
      refine Met.intro (hJ_ _ _ ?mg_ ?rel)
      case mg_ => kernel_rfl
      case rel => exact ⟨_, (true), (by first | rfl | ((conv => lhs; whnf); first | rfl | (simp; done) | (simp [*]; done))), H', ⟨by have := HJ7.out; first | omega | exact Nat.le_refl _⟩, ⟨by (with_reducible repeat (first | apply Kd.R_alloc | apply Kd.R_drewN | apply Kd.R_drew)); exact Kd.R_mono HO204.out (fun _ hk => trivial)⟩, ⟨by (with_reducible repeat (first | apply Kd.R_alloc | apply Kd.R_drewN | apply Kd.R_drew)); exact Kd.R_mono HO221.out (fun _ hk => trivial)⟩, ⟨by repeat (first | (with_reducible first | exact HB.out | apply below_alloc | apply pw_below_drewN | apply below_drew1) | exact HB.out)⟩⟩
     ·rw [if_neg c35] at H
      have c35b0 : (t214 != t216) = false := by simpa using c35
      (try (have c35b1 : decide (t214 = t216) = true := by simpa using c35))
      (try (have c35b2 : (t214 == t216) = true := by simpa using c35))
      clear c35
      (try (have c35e : t214 = t216 := by first | simpa using c35b0 | (simpa using (bne_eq_false_iff_eq.mp c35b0).symm)); (subst c35e))
      by_cases c38 : t213 = t215
      ·rw [if_pos c38] at H
       have c38b0 : (t213 == t215) = true := beq_iff_eq.mpr c38
       have c38b1 : (t213 != t215) = false := bne_eq_false_iff_eq.mpr c38
       clear c38
       by_cases c39 : (t219 != t224) = true
       ·rw [if_pos c39] at H
        have c39b0 : (t219 != t224) = true := c39
        (try (have c39b1 : decide (t219 = t224) = false := by simpa using c39))
        (try (have c39b2 : (t219 == t224) = false := by simpa using c39))
        (try (have c39b3 : ¬ (t219 = t224) := by simpa using c39))
        clear c39
        have H' := Aside0.mk H
        clear H
        obtain ⟨Ao40, co40, eo40⟩ := Kd.R_slice HO204.out
        subst eo40
        obtain ⟨Ao41, co41, eo41⟩ := Kd.R_slice HO208.out
        subst eo41
        go_wp2_with (first | (go_at_call 12; (with_reducible refine (laws_ySame.calls kj7 _ _ t201 _ _ t205 true _ ?side1 ?side2 ?side3 ?side4 A29.out).mono ?_); (case side1 => repeat (first | exact (Kd.R_reads' HO204.out).2.2 | (with_reducible refine Kd.C_alloc ?_ _) | (with_reducible refine Kd.C_drewN ?_ _) | (with_reducible refine Kd.C_drew ?_))); (case side2 => exact (Kd.R_reads' HO204.out).2.1); (case side3 => repeat (first | exact (Kd.R_reads' HO208.out).2.2 | (with_reducible refine Kd.C_alloc ?_ _) | (with_reducible refine Kd.C_drewN ?_ _) | (with_reducible refine Kd.C_drew ?_))); (case side4 => exact (Kd.R_reads' HO208.out).2.1); rintro e w' ⟨rfl, ⟨nd, rfl⟩⟩; (try first | exact ⟨rfl, _, World.drewN_drewN _ _ _⟩ | exact ⟨rfl, _, Eq.trans (World.drewN_drewN _ _ _) (congrArg (World.drewN _) (Nat.add_assoc _ _ _))⟩)))
        repeat (go_quiet (first | (go_at_call 12; (with_reducible refine (laws_ySame.calls kj7 _ _ t201 _ _ t205 true _ ?side1 ?side2 ?side3 ?side4 A29.out).mono ?_); (case side1 => repeat (first | exact (Kd.R_reads' HO204.out).2.2 | (with_reducible refine Kd.C_alloc ?_ _) | (with_reducible refine Kd.C_drewN ?_ _) | (with_reducible refine Kd.C_drew ?_))); (case side2 => exact (Kd.R_reads' HO204.out).2.1); (case side3 => repeat (first | exact (Kd.R_reads' HO208.out).2.2 | (with_reducible refine Kd.C_alloc ?_ _) | (with_reducible refine Kd.C_drewN ?_ _) | (with_reducible refine Kd.C_drew ?_))); (case side4 => exact (Kd.R_reads' HO208.out).2.1); rintro e w' ⟨rfl, ⟨nd, rfl⟩⟩; (try first | exact ⟨rfl, _, World.drewN_drewN _ _ _⟩ | exact ⟨rfl, _, Eq.trans (World.drewN_drewN _ _ _) (congrArg (World.drewN _) (Nat.add_assoc _ _ _))⟩))); try go_wp2_with (first | (go_at_call 12; (with_reducible refine (laws_ySame.calls kj7 _ _ t201 _ _ t205 true _ ?side1 ?side2 ?side3 ?side4 A29.out).mono ?_); (case side1 => repeat (first | exact (Kd.R_reads' HO204.out).2.2 | (with_reducible refine Kd.C_alloc ?_ _) | (with_reducible refine Kd.C_drewN ?_ _) | (with_reducible refine Kd.C_drew ?_))); (case side2 => exact (Kd.R_reads' HO204.out).2.1); (case side3 => repeat (first | exact (Kd.R_reads' HO208.out).2.2 | (with_reducible refine Kd.C_alloc ?_ _) | (with_reducible refine Kd.C_drewN ?_ _) | (with_reducible refine Kd.C_drew ?_))); (case side4 => exact (Kd.R_reads' HO208.out).2.1); rintro e w' ⟨rfl, ⟨nd, rfl⟩⟩; (try first | exact ⟨rfl, _, World.drewN_drewN _ _ _⟩ | exact ⟨rfl, _, Eq.trans (World.drewN_drewN _ _ _) (congrArg (World.drewN _) (Nat.add_assoc _ _ _))⟩))))
        refine Met.intro (hJ_ _ _ ?mg_ ?rel)
        case mg_ => kernel_rfl
        case rel => exact ⟨_, (true), (by first | rfl | ((conv => lhs; whnf); first | rfl | (simp; done) | (simp [*]; done))), H', ⟨by have := HJ7.out; first | omega | exact Nat.le_refl _⟩, ⟨by (with_reducible repeat (first | apply Kd.R_alloc | apply Kd.R_drewN | apply Kd.R_drew)); exact Kd.R_mono HO204.out (fun _ hk => trivial)⟩, ⟨by (with_reducible repeat (first | apply Kd.R_alloc | apply Kd.R_drewN | apply Kd.R_drew)); exact Kd.R_mono HO221.out (fun _ hk => trivial)⟩, ⟨by repeat (first | (with_reducible first | exact HB.out | apply below_alloc | apply pw_below_drewN | apply below_drew1) | exact HB.out)⟩⟩
       ·
        repeat revert ‹_›
        intro HP0_
        exact HP0_.out
      ·rw [if_neg c38] at H
       have c38b0 : (t213 == t215) = false := beq_eq_false_iff_ne.mpr c38
       have c38b1 : (t213 != t215) = true := bne_iff_ne.mpr c38
       have H' := Aside0.mk H
       clear H
       obtain ⟨Ao89, co89, eo89⟩ := Kd.R_slice HO204.out
       subst eo89
       obtain ⟨Ao90, co90, eo90⟩ := Kd.R_slice HO208.out
       subst eo90
       go_wp2_with (first | (go_at_call 12; (with_reducible refine (laws_ySame.calls kj7 _ _ t201 _ _ t205 true _ ?side1 ?side2 ?side3 ?side4 A29.out).mono ?_); (case side1 => repeat (first | exact (Kd.R_reads' HO204.out).2.2 | (with_reducible refine Kd.C_alloc ?_ _) | (with_reducible refine Kd.C_drewN ?_ _) | (with_reducible refine Kd.C_drew ?_))); (case side2 => exact (Kd.R_reads' HO204.out).2.1); (case side3 => repeat (first | exact (Kd.R_reads' HO208.out).2.2 | (with_reducible refine Kd.C_alloc ?_ _) | (with_reducible refine Kd.C_drewN ?_ _) | (with_reducible refine Kd.C_drew ?_))); (case side4 => exact (Kd.R_reads' HO208.out).2.1); rintro e w' ⟨rfl, ⟨nd, rfl⟩⟩; (try first | exact ⟨rfl, _, World.drewN_drewN _ _ _⟩ | exact ⟨rfl, _, Eq.trans (World.drewN_drewN _ _ _) (congrArg (World.drewN _) (Nat.add_assoc _ _ _))⟩)))
       repeat (go_quiet (first | (go_at_call 12; (with_reducible refine (laws_ySame.calls kj7 _ _ t201 _ _ t205 true _ ?side1 ?side2 ?side3 ?side4 A29.out).mono ?_); (case side1 => repeat (first | exact (Kd.R_reads' HO204.out).2.2 | (with_reducible refine Kd.C_alloc ?_ _) | (with_reducible refine Kd.C_drewN ?_ _) | (with_reducible refine Kd.C_drew ?_))); (case side2 => exact (Kd.R_reads' HO204.out).2.1); (case side3 => repeat (first | exact (Kd.R_reads' HO208.out).2.2 | (with_reducible refine Kd.C_alloc ?_ _) | (with_reducible refine Kd.C_drewN ?_ _) | (with_reducible refine Kd.C_drew ?_))); (case side4 => exact (Kd.R_reads' HO208.out).2.1); rintro e w' ⟨rfl, ⟨nd, rfl⟩⟩; (try first | exact ⟨rfl, _, World.drewN_drewN _ _ _⟩ | exact ⟨rfl, _, Eq.trans (World.drewN_drewN _ _ _) (congrArg (World.drewN _) (Nat.add_assoc _ _ _))⟩))); try go_wp2_with (first | (go_at_call 12; (with_reducible refine (laws_ySame.calls kj7 _ _ t201 _ _ t205 true _ ?side1 ?side2 ?side3 ?side4 A29.out).mono ?_); (case side1 => repeat (first | exact (Kd.R_reads' HO204.out).2.2 | (with_reducible refine Kd.C_alloc ?_ _) | (with_reducible refine Kd.C_drewN ?_ _) | (with_reducible refine Kd.C_drew ?_))); (case side2 => exact (Kd.R_reads' HO204.out).2.1); (case side3 => repeat (first | exact (Kd.R_reads' HO208.out).2.2 | (with_reducible refine Kd.C_alloc ?_ _) | (with_reducible refine Kd.C_drewN ?_ _) | (with_reducible refine Kd.C_drew ?_))); (case side4 => exact (Kd.R_reads' HO208.out).2.1); rintro e w' ⟨rfl, ⟨nd, rfl⟩⟩; (try first | exact ⟨rfl, _, World.drewN_drewN _ _ _⟩ | exact ⟨rfl, _, Eq.trans (World.drewN_drewN _ _ _) (congrArg (World.drewN _) (Nat.add_assoc _ _ _))⟩))))
       refine Met.intro (hJ_ _ _ ?mg_ ?rel)
       case mg_ => kernel_rfl
       case rel => exact ⟨_, (true), (by first | rfl | ((conv => lhs; whnf); first | rfl | (simp; done) | (simp [*]; done))), H', ⟨by have := HJ7.out; first | omega | exact Nat.le_refl _⟩, ⟨by (with_reducible repeat (first | apply Kd.R_alloc | apply Kd.R_drewN | apply Kd.R_drew)); exact Kd.R_mono HO204.out (fun _ hk => trivial)⟩, ⟨by (with_reducible repeat (first | apply Kd.R_alloc | apply Kd.R_drewN | apply Kd.R_drew)); exact Kd.R_mono HO221.out (fun _ hk => trivial)⟩, ⟨by repeat (first | (with_reducible first | exact HB.out | apply below_alloc | apply pw_below_drewN | apply below_drew1) | exact HB.out)⟩⟩
    ·rw [if_neg c34] at H
     have c34b0 : (t209 == t211) = false := beq_eq_false_iff_ne.mpr c34
     have c34b1 : (t209 != t211) = true := bne_iff_ne.mpr c34
     have H' := Aside0.mk H
     clear H
     obtain ⟨Ao91, co91, eo91⟩ := Kd.R_slice HO204.out
     subst eo91
     obtain ⟨Ao92, co92, eo92⟩ := Kd.R_slice HO208.out
     subst eo92
     go_wp2_with (first | (go_at_call 12; (with_reducible refine (laws_ySame.calls kj7 _ _ t201 _ _ t205 true _ ?side1 ?side2 ?side3 ?side4 A29.out).mono ?_); (case side1 => repeat (first | exact (Kd.R_reads' HO204.out).2.2 | (with_reducible refine Kd.C_alloc ?_ _) | (with_reducible refine Kd.C_drewN ?_ _) | (with_reducible refine Kd.C_drew ?_))); (case side2 => exact (Kd.R_reads' HO204.out).2.1); (case side3 => repeat (first | exact (Kd.R_reads' HO208.out).2.2 | (with_reducible refine Kd.C_alloc ?_ _) | (with_reducible refine Kd.C_drewN ?_ _) | (with_reducible refine Kd.C_drew ?_))); (case side4 => exact (Kd.R_reads' HO208.out).2.1); rintro e w' ⟨rfl, ⟨nd, rfl⟩⟩; (try first | exact ⟨rfl, _, World.drewN_drewN _ _ _⟩ | exact ⟨rfl, _, Eq.trans (World.drewN_drewN _ _ _) (congrArg (World.drewN _) (Nat.add_assoc _ _ _))⟩)))
     repeat (go_quiet (first | (go_at_call 12; (with_reducible refine (laws_ySame.calls kj7 _ _ t201 _ _ t205 true _ ?side1 ?side2 ?side3 ?side4 A29.out).mono ?_); (case side1 => repeat (first | exact (Kd.R_reads' HO204.out).2.2 | (with_reducible refine Kd.C_alloc ?_ _) | (with_reducible refine Kd.C_drewN ?_ _) | (with_reducible refine Kd.C_drew ?_))); (case side2 => exact (Kd.R_reads' HO204.out).2.1); (case side3 => repeat (first | exact (Kd.R_reads' HO208.out).2.2 | (with_reducible refine Kd.C_alloc ?_ _) | (with_reducible refine Kd.C_drewN ?_ _) | (with_reducible refine Kd.C_drew ?_))); (case side4 => exact (Kd.R_reads' HO208.out).2.1); rintro e w' ⟨rfl, ⟨nd, rfl⟩⟩; (try first | exact ⟨rfl, _, World.drewN_drewN _ _ _⟩ | exact ⟨rfl, _, Eq.trans (World.drewN_drewN _ _ _) (congrArg (World.drewN _) (Nat.add_assoc _ _ _))⟩))); try go_wp2_with (first | (go_at_call 12; (with_reducible refine (laws_ySame.calls kj7 _ _ t201 _ _ t205 true _ ?side1 ?side2 ?side3 ?side4 A29.out).mono ?_); (case side1 => repeat (first | exact (Kd.R_reads' HO204.out).2.2 | (with_reducible refine Kd.C_alloc ?_ _) | (with_reducible refine Kd.C_drewN ?_ _) | (with_reducible refine Kd.C_drew ?_))); (case side2 => exact (Kd.R_reads' HO204.out).2.1); (case side3 => repeat (first | exact (Kd.R_reads' HO208.out).2.2 | (with_reducible refine Kd.C_alloc ?_ _) | (with_reducible refine Kd.C_drewN ?_ _) | (with_reducible refine Kd.C_drew ?_))); (case side4 => exact (Kd.R_reads' HO208.out).2.1); rintro e w' ⟨rfl, ⟨nd, rfl⟩⟩; (try first | exact ⟨rfl, _, World.drewN_drewN _ _ _⟩ | exact ⟨rfl, _, Eq.trans (World.drewN_drewN _ _ _) (congrArg (World.drewN _) (Nat.add_assoc _ _ _))⟩))))
     refine Met.intro (hJ_ _ _ ?mg_ ?rel)
     case mg_ => kernel_rfl
     case rel => exact ⟨_, (true), (by first | rfl | ((conv => lhs; whnf); first | rfl | (simp; done) | (simp [*]; done))), H', ⟨by have := HJ7.out; first | omega | exact Nat.le_refl _⟩, ⟨by (with_reducible repeat (first | apply Kd.R_alloc | apply Kd.R_drewN | apply Kd.R_drew)); exact Kd.R_mono HO204.out (fun _ hk => trivial)⟩, ⟨by (with_reducible repeat (first | apply Kd.R_alloc | apply Kd.R_drewN | apply Kd.R_drew)); exact Kd.R_mono HO221.out (fun _ hk => trivial)⟩, ⟨by repeat (first | (with_reducible first | exact HB.out | apply below_alloc | apply pw_below_drewN | apply below_drew1) | exact HB.out)⟩⟩
  ·replace c30 := Bool.eq_false_iff.mpr c30
   subst c30
   rw [if_neg (show ¬ (false = true) by decide)] at H
   have H1 := H
   clear H
   have H := H1
   clear H1
   have H' := Aside0.mk H
   clear H
   obtain ⟨Ao93, co93, eo93⟩ := Kd.R_slice HO204.out
   subst eo93
   obtain ⟨Ao94, co94, eo94⟩ := Kd.R_slice HO208.out
   subst eo94
   go_wp2_with (first | (go_at_call 12; (with_reducible refine (laws_ySame.calls kj7 _ _ t201 _ _ t205 false _ ?side1 ?side2 ?side3 ?side4 A29.out).mono ?_); (case side1 => repeat (first | exact (Kd.R_reads' HO204.out).2.2 | (with_reducible refine Kd.C_alloc ?_ _) | (with_reducible refine Kd.C_drewN ?_ _) | (with_reducible refine Kd.C_drew ?_))); (case side2 => exact (Kd.R_reads' HO204.out).2.1); (case side3 => repeat (first | exact (Kd.R_reads' HO208.out).2.2 | (with_reducible refine Kd.C_alloc ?_ _) | (with_reducible refine Kd.C_drewN ?_ _) | (with_reducible refine Kd.C_drew ?_))); (case side4 => exact (Kd.R_reads' HO208.out).2.1); rintro e w' ⟨rfl, ⟨nd, rfl⟩⟩; (try first | exact ⟨rfl, _, World.drewN_drewN _ _ _⟩ | exact ⟨rfl, _, Eq.trans (World.drewN_drewN _ _ _) (congrArg (World.drewN _) (Nat.add_assoc _ _ _))⟩)))
   repeat (go_quiet (first | (go_at_call 12; (with_reducible refine (laws_ySame.calls kj7 _ _ t201 _ _ t205 false _ ?side1 ?side2 ?side3 ?side4 A29.out).mono ?_); (case side1 => repeat (first | exact (Kd.R_reads' HO204.out).2.2 | (with_reducible refine Kd.C_alloc ?_ _) | (with_reducible refine Kd.C_drewN ?_ _) | (with_reducible refine Kd.C_drew ?_))); (case side2 => exact (Kd.R_reads' HO204.out).2.1); (case side3 => repeat (first | exact (Kd.R_reads' HO208.out).2.2 | (with_reducible refine Kd.C_alloc ?_ _) | (with_reducible refine Kd.C_drewN ?_ _) | (with_reducible refine Kd.C_drew ?_))); (case side4 => exact (Kd.R_reads' HO208.out).2.1); rintro e w' ⟨rfl, ⟨nd, rfl⟩⟩; (try first | exact ⟨rfl, _, World.drewN_drewN _ _ _⟩ | exact ⟨rfl, _, Eq.trans (World.drewN_drewN _ _ _) (congrArg (World.drewN _) (Nat.add_assoc _ _ _))⟩))); try go_wp2_with (first | (go_at_call 12; (with_reducible refine (laws_ySame.calls kj7 _ _ t201 _ _ t205 false _ ?side1 ?side2 ?side3 ?side4 A29.out).mono ?_); (case side1 => repeat (first | exact (Kd.R_reads' HO204.out).2.2 | (with_reducible refine Kd.C_alloc ?_ _) | (with_reducible refine Kd.C_drewN ?_ _) | (with_reducible refine Kd.C_drew ?_))); (case side2 => exact (Kd.R_reads' HO204.out).2.1); (case side3 => repeat (first | exact (Kd.R_reads' HO208.out).2.2 | (with_reducible refine Kd.C_alloc ?_ _) | (with_reducible refine Kd.C_drewN ?_ _) | (with_reducible refine Kd.C_drew ?_))); (case side4 => exact (Kd.R_reads' HO208.out).2.1); rintro e w' ⟨rfl, ⟨nd, rfl⟩⟩; (try first | exact ⟨rfl, _, World.drewN_drewN _ _ _⟩ | exact ⟨rfl, _, Eq.trans (World.drewN_drewN _ _ _) (congrArg (World.drewN _) (Nat.add_assoc _ _ _))⟩))))
   refine Met.intro (hJ_ _ _ ?mg_ ?rel)
   case mg_ => kernel_rfl
   case rel => exact ⟨_, (true), (by first | rfl | ((conv => lhs; whnf); first | rfl | (simp; done) | (simp [*]; done))), H', ⟨by have := HJ7.out; first | omega | exact Nat.le_refl _⟩, ⟨by (with_reducible repeat (first | apply Kd.R_alloc | apply Kd.R_drewN | apply Kd.R_drew)); exact Kd.R_mono HO204.out (fun _ hk => trivial)⟩, ⟨by (with_reducible repeat (first | apply Kd.R_alloc | apply Kd.R_drewN | apply Kd.R_drew)); exact Kd.R_mono HO221.out (fun _ hk => trivial)⟩, ⟨by repeat (first | (with_reducible first | exact HB.out | apply below_alloc | apply pw_below_drewN | apply below_drew1) | exact HB.out)⟩⟩

def laws_FnRingsMoveOfAll.c3 : PSigma fun P0_ : Prop => Hole P0_ → laws_FnRingsMoveOfAll.c2.1 := by
 refine' ⟨_, fun HP0_ => _⟩
 rotate_left 1
 intro k a0 a1 A2 c2 l2 a3 a4 a5 a6 r w HR2 HC2 _ _ f_ wc kj7 HJ7 t201 t202 A13 t205 t209 t210 A15 t211 t213 t214 A17 t215 t217 t218 t219 A19 t222 t223 t224 A20 w22 v203 w23 v207 w24 _ w25 nd w26 v220 w27 v225 HO204 HO208 HO221 HO226 HB _ _ _ _ J_ K_ hK_ A14 c28b0 c28b1 c28b2 A29 H A16 c31b0 c31b1 c31b2 c34b0 c34b1 A18 hJ_ c35b0 c35b1 c35b2 c38b0 c38b1 c39
 rw [if_neg c39] at H
 have c39b0 : (t219 != t224) = false := by simpa using c39
 (try (have c39b1 : decide (t219 = t224) = true := by simpa using c39))
 (try (have c39b2 : (t219 == t224) = true := by simpa using c39))
 clear c39
 (try (have c39e : t219 = t224 := by first | simpa using c39b0 | (simpa using (bne_eq_false_iff_eq.mp c39b0).symm)); (subst c39e))
 replace H := Option.bind_eq_some_iff.mp H
 obtain ⟨t228, A420, H⟩ := H
 try dsimp +instances only at H
 replace H := H
 have A42 := Aside0.mk A420
 clear A420
 by_cases c43 : t228 = true
 ·subst c43
  rw [if_pos rfl] at H
  have H1 := H
  clear H
  have H := H1
  clear H1
  by_cases c44 : t218 = t223
  ·rw [if_pos c44] at H
   have c44b0 : (t218 == t223) = true := beq_iff_eq.mpr c44
   have c44b1 : (t218 != t223) = false := bne_eq_false_iff_eq.mpr c44
   clear c44
   replace H := Option.bind_eq_some_iff.mp H
   obtain ⟨t229, A450, H⟩ := H
   try dsimp +instances only at H
   replace H := H
   have A45 := Aside0.mk A450
   clear A450
   by_cases c46 : (t202 != t229) = true
   ·rw [if_pos c46] at H
    have c46b0 : (t202 != t229) = true := c46
    (try (have c46b1 : decide (t202 = t229) = false := by simpa using c46))
    (try (have c46b2 : (t202 == t229) = false := by simpa using c46))
    (try (have c46b3 : ¬ (t202 = t229) := by simpa using c46))
    clear c46
    have H' := Aside0.mk H
    clear H
    obtain ⟨Ao47, co47, eo47⟩ := Kd.R_slice HO204.out
    subst eo47
    obtain ⟨Ao48, co48, eo48⟩ := Kd.R_slice HO208.out
    subst eo48
    go_wp2_with (first | (go_at_call 12; (with_reducible refine (laws_ySame.calls kj7 _ _ t201 _ _ t205 true _ ?side1 ?side2 ?side3 ?side4 A29.out).mono ?_); (case side1 => repeat (first | exact (Kd.R_reads' HO204.out).2.2 | (with_reducible refine Kd.C_alloc ?_ _) | (with_reducible refine Kd.C_drewN ?_ _) | (with_reducible refine Kd.C_drew ?_))); (case side2 => exact (Kd.R_reads' HO204.out).2.1); (case side3 => repeat (first | exact (Kd.R_reads' HO208.out).2.2 | (with_reducible refine Kd.C_alloc ?_ _) | (with_reducible refine Kd.C_drewN ?_ _) | (with_reducible refine Kd.C_drew ?_))); (case side4 => exact (Kd.R_reads' HO208.out).2.1); rintro e w' ⟨rfl, ⟨nd, rfl⟩⟩; (try first | exact ⟨rfl, _, World.drewN_drewN _ _ _⟩ | exact ⟨rfl, _, Eq.trans (World.drewN_drewN _ _ _) (congrArg (World.drewN _) (Nat.add_assoc _ _ _))⟩); obtain ⟨Ao49, co49, eo49⟩ := Kd.R_slice HO221.out; subst eo49; obtain ⟨Ao50, co50, eo50⟩ := Kd.R_slice HO226.out; subst eo50) | (go_at_call 13; (with_reducible refine (laws_yTexts.calls kj7 _ _ t217 _ _ t222 true _ ?side1 ?side2 ?side3 ?side4 A42.out).mono ?_); (case side1 => repeat (first | exact (Kd.R_reads' HO221.out).2.2 | (with_reducible refine Kd.C_alloc ?_ _) | (with_reducible refine Kd.C_drewN ?_ _) | (with_reducible refine Kd.C_drew ?_))); (case side2 => exact (Kd.R_reads' HO221.out).2.1); (case side3 => repeat (first | exact (Kd.R_reads' HO226.out).2.2 | (with_reducible refine Kd.C_alloc ?_ _) | (with_reducible refine Kd.C_drewN ?_ _) | (with_reducible refine Kd.C_drew ?_))); (case side4 => exact (Kd.R_reads' HO226.out).2.1); rintro e w' ⟨rfl, ⟨nd, rfl⟩⟩; (try first | exact ⟨rfl, _, World.drewN_drewN _ _ _⟩ | exact ⟨rfl, _, Eq.trans (World.drewN_drewN _ _ _) (congrArg (World.drewN _) (Nat.add_assoc _ _ _))⟩)) | (go_at_call 14; (with_reducible refine (impl_IsState.calls a0 t229 _ A45.out).mono ?_); rintro e w51 ⟨rfl, hb⟩; have n0_ := Aside0.mk (Kd.R_below (by (with_reducible repeat (first | apply Kd.R_alloc | apply Kd.R_drewN | apply Kd.R_drew)); exact HO204.out) hb); have n1_ := Aside0.mk (Kd.R_below (by (with_reducible repeat (first | apply Kd.R_alloc | apply Kd.R_drewN | apply Kd.R_drew)); exact HO208.out) hb); have n2_ := Aside0.mk (Kd.R_below (by (with_reducible repeat (first | apply Kd.R_alloc | apply Kd.R_drewN | apply Kd.R_drew)); exact HO221.out) hb); have n3_ := Aside0.mk (Kd.R_below (by (with_reducible repeat (first | apply Kd.R_alloc | apply Kd.R_drewN | apply Kd.R_drew)); exact HO226.out) hb); have n4_ := Aside0.mk (below_step (by repeat (first | (with_reducible first | exact HB.out | apply below_alloc | apply pw_below_drewN | apply below_drew1) | exact HB.out)) hb); clear HO204; clear HO208; clear HO221; clear HO226; clear HB; have HO204 := n0_; have HO208 := n1_; have HO221 := n2_; have HO226 := n3_; have HB := n4_; clear n0_ n1_ n2_ n3_ n4_; (try clear hb); (try clear hb2); (try clear hk); (try clear hi)))
    repeat (go_quiet (first | (go_at_call 12; (with_reducible refine (laws_ySame.calls kj7 _ _ t201 _ _ t205 true _ ?side1 ?side2 ?side3 ?side4 A29.out).mono ?_); (case side1 => repeat (first | exact (Kd.R_reads' HO204.out).2.2 | (with_reducible refine Kd.C_alloc ?_ _) | (with_reducible refine Kd.C_drewN ?_ _) | (with_reducible refine Kd.C_drew ?_))); (case side2 => exact (Kd.R_reads' HO204.out).2.1); (case side3 => repeat (first | exact (Kd.R_reads' HO208.out).2.2 | (with_reducible refine Kd.C_alloc ?_ _) | (with_reducible refine Kd.C_drewN ?_ _) | (with_reducible refine Kd.C_drew ?_))); (case side4 => exact (Kd.R_reads' HO208.out).2.1); rintro e w' ⟨rfl, ⟨nd, rfl⟩⟩; (try first | exact ⟨rfl, _, World.drewN_drewN _ _ _⟩ | exact ⟨rfl, _, Eq.trans (World.drewN_drewN _ _ _) (congrArg (World.drewN _) (Nat.add_assoc _ _ _))⟩); obtain ⟨Ao49, co49, eo49⟩ := Kd.R_slice HO221.out; subst eo49; obtain ⟨Ao50, co50, eo50⟩ := Kd.R_slice HO226.out; subst eo50) | (go_at_call 13; (with_reducible refine (laws_yTexts.calls kj7 _ _ t217 _ _ t222 true _ ?side1 ?side2 ?side3 ?side4 A42.out).mono ?_); (case side1 => repeat (first | exact (Kd.R_reads' HO221.out).2.2 | (with_reducible refine Kd.C_alloc ?_ _) | (with_reducible refine Kd.C_drewN ?_ _) | (with_reducible refine Kd.C_drew ?_))); (case side2 => exact (Kd.R_reads' HO221.out).2.1); (case side3 => repeat (first | exact (Kd.R_reads' HO226.out).2.2 | (with_reducible refine Kd.C_alloc ?_ _) | (with_reducible refine Kd.C_drewN ?_ _) | (with_reducible refine Kd.C_drew ?_))); (case side4 => exact (Kd.R_reads' HO226.out).2.1); rintro e w' ⟨rfl, ⟨nd, rfl⟩⟩; (try first | exact ⟨rfl, _, World.drewN_drewN _ _ _⟩ | exact ⟨rfl, _, Eq.trans (World.drewN_drewN _ _ _) (congrArg (World.drewN _) (Nat.add_assoc _ _ _))⟩)) | (go_at_call 14; (with_reducible refine (impl_IsState.calls a0 t229 _ A45.out).mono ?_); rintro e w51 ⟨rfl, hb⟩; have n0_ := Aside0.mk (Kd.R_below (by (with_reducible repeat (first | apply Kd.R_alloc | apply Kd.R_drewN | apply Kd.R_drew)); exact HO204.out) hb); have n1_ := Aside0.mk (Kd.R_below (by (with_reducible repeat (first | apply Kd.R_alloc | apply Kd.R_drewN | apply Kd.R_drew)); exact HO208.out) hb); have n2_ := Aside0.mk (Kd.R_below (by (with_reducible repeat (first | apply Kd.R_alloc | apply Kd.R_drewN | apply Kd.R_drew)); exact HO221.out) hb); have n3_ := Aside0.mk (Kd.R_below (by (with_reducible repeat (first | apply Kd.R_alloc | apply Kd.R_drewN | apply Kd.R_drew)); exact HO226.out) hb); have n4_ := Aside0.mk (below_step (by repeat (first | (with_reducible first | exact HB.out | apply below_alloc | apply pw_below_drewN | apply below_drew1) | exact HB.out)) hb); clear HO204; clear HO208; clear HO221; clear HO226; clear HB; have HO204 := n0_; have HO208 := n1_; have HO221 := n2_; have HO226 := n3_; have HB := n4_; clear n0_ n1_ n2_ n3_ n4_; (try clear hb); (try clear hb2); (try clear hk); (try clear hi))); try go_wp2_with (first | (go_at_call 12; (with_reducible refine (laws_ySame.calls kj7 _ _ t201 _ _ t205 true _ ?side1 ?side2 ?side3 ?side4 A29.out).mono ?_); (case side1 => repeat (first | exact (Kd.R_reads' HO204.out).2.2 | (with_reducible refine Kd.C_alloc ?_ _) | (with_reducible refine Kd.C_drewN ?_ _) | (with_reducible refine Kd.C_drew ?_))); (case side2 => exact (Kd.R_reads' HO204.out).2.1); (case side3 => repeat (first | exact (Kd.R_reads' HO208.out).2.2 | (with_reducible refine Kd.C_alloc ?_ _) | (with_reducible refine Kd.C_drewN ?_ _) | (with_reducible refine Kd.C_drew ?_))); (case side4 => exact (Kd.R_reads' HO208.out).2.1); rintro e w' ⟨rfl, ⟨nd, rfl⟩⟩; (try first | exact ⟨rfl, _, World.drewN_drewN _ _ _⟩ | exact ⟨rfl, _, Eq.trans (World.drewN_drewN _ _ _) (congrArg (World.drewN _) (Nat.add_assoc _ _ _))⟩); obtain ⟨Ao49, co49, eo49⟩ := Kd.R_slice HO221.out; subst eo49; obtain ⟨Ao50, co50, eo50⟩ := Kd.R_slice HO226.out; subst eo50) | (go_at_call 13; (with_reducible refine (laws_yTexts.calls kj7 _ _ t217 _ _ t222 true _ ?side1 ?side2 ?side3 ?side4 A42.out).mono ?_); (case side1 => repeat (first | exact (Kd.R_reads' HO221.out).2.2 | (with_reducible refine Kd.C_alloc ?_ _) | (with_reducible refine Kd.C_drewN ?_ _) | (with_reducible refine Kd.C_drew ?_))); (case side2 => exact (Kd.R_reads' HO221.out).2.1); (case side3 => repeat (first | exact (Kd.R_reads' HO226.out).2.2 | (with_reducible refine Kd.C_alloc ?_ _) | (with_reducible refine Kd.C_drewN ?_ _) | (with_reducible refine Kd.C_drew ?_))); (case side4 => exact (Kd.R_reads' HO226.out).2.1); rintro e w' ⟨rfl, ⟨nd, rfl⟩⟩; (try first | exact ⟨rfl, _, World.drewN_drewN _ _ _⟩ | exact ⟨rfl, _, Eq.trans (World.drewN_drewN _ _ _) (congrArg (World.drewN _) (Nat.add_assoc _ _ _))⟩)) | (go_at_call 14; (with_reducible refine (impl_IsState.calls a0 t229 _ A45.out).mono ?_); rintro e w51 ⟨rfl, hb⟩; have n0_ := Aside0.mk (Kd.R_below (by (with_reducible repeat (first | apply Kd.R_alloc | apply Kd.R_drewN | apply Kd.R_drew)); exact HO204.out) hb); have n1_ := Aside0.mk (Kd.R_below (by (with_reducible repeat (first | apply Kd.R_alloc | apply Kd.R_drewN | apply Kd.R_drew)); exact HO208.out) hb); have n2_ := Aside0.mk (Kd.R_below (by (with_reducible repeat (first | apply Kd.R_alloc | apply Kd.R_drewN | apply Kd.R_drew)); exact HO221.out) hb); have n3_ := Aside0.mk (Kd.R_below (by (with_reducible repeat (first | apply Kd.R_alloc | apply Kd.R_drewN | apply Kd.R_drew)); exact HO226.out) hb); have n4_ := Aside0.mk (below_step (by repeat (first | (with_reducible first | exact HB.out | apply below_alloc | apply pw_below_drewN | apply below_drew1) | exact HB.out)) hb); clear HO204; clear HO208; clear HO221; clear HO226; clear HB; have HO204 := n0_; have HO208 := n1_; have HO221 := n2_; have HO226 := n3_; have HB := n4_; clear n0_ n1_ n2_ n3_ n4_; (try clear hb); (try clear hb2); (try clear hk); (try clear hi))))
    refine Met.intro (hJ_ _ _ ?mg_ ?rel)
    case mg_ => kernel_rfl
    case rel => exact ⟨_, (true), (by first | rfl | ((conv => lhs; whnf); first | rfl | (simp; done) | (simp [*]; done))), H', ⟨by have := HJ7.out; first | omega | exact Nat.le_refl _⟩, ⟨by (with_reducible repeat (first | apply Kd.R_alloc | apply Kd.R_drewN | apply Kd.R_drew)); exact Kd.R_mono HO204.out (fun _ hk => trivial)⟩, ⟨by (with_reducible repeat (first | apply Kd.R_alloc | apply Kd.R_drewN | apply Kd.R_drew)); exact Kd.R_mono HO221.out (fun _ hk => trivial)⟩, ⟨by repeat (first | (with_reducible first | exact HB.out | apply below_alloc | apply pw_below_drewN | apply below_drew1) | exact HB.out)⟩⟩
   ·rw [if_neg c46] at H
    have c46b0 : (t202 != t229) = false := by simpa using c46
    (try (have c46b1 : decide (t202 = t229) = true := by simpa using c46))
    (try (have c46b2 : (t202 == t229) = true := by simpa using c46))
    clear c46
    replace H := Option.bind_eq_some_iff.mp H
    obtain ⟨t230, A520, H⟩ := H
    try dsimp +instances only at H
    replace H := H
    have A52 := Aside0.mk A520
    clear A520
    have et230_ : t229 = t230 := Option.some.inj (A45.out.symm.trans A52.out)
    subst et230_
    replace H := Option.bind_eq_some_iff.mp H
    obtain ⟨t231, A530, H⟩ := H
    try dsimp +instances only at H
    replace H := H
    have A53 := Aside0.mk A530
    clear A530
    by_cases c54 : (t229 != t231) = true
    ·rw [if_pos c54] at H
     have c54b0 : (t229 != t231) = true := c54
     (try (have c54b1 : decide (t229 = t231) = false := by simpa using c54))
     (try (have c54b2 : (t229 == t231) = false := by simpa using c54))
     (try (have c54b3 : ¬ (t229 = t231) := by simpa using c54))
     clear c54
     have H' := Aside0.mk H
     clear H
     obtain ⟨Ao55, co55, eo55⟩ := Kd.R_slice HO204.out
     subst eo55
     obtain ⟨Ao56, co56, eo56⟩ := Kd.R_slice HO208.out
     subst eo56
     go_wp2_with (first | (go_at_call 12; (with_reducible refine (laws_ySame.calls kj7 _ _ t201 _ _ t205 true _ ?side1 ?side2 ?side3 ?side4 A29.out).mono ?_); (case side1 => repeat (first | exact (Kd.R_reads' HO204.out).2.2 | (with_reducible refine Kd.C_alloc ?_ _) | (with_reducible refine Kd.C_drewN ?_ _) | (with_reducible refine Kd.C_drew ?_))); (case side2 => exact (Kd.R_reads' HO204.out).2.1); (case side3 => repeat (first | exact (Kd.R_reads' HO208.out).2.2 | (with_reducible refine Kd.C_alloc ?_ _) | (with_reducible refine Kd.C_drewN ?_ _) | (with_reducible refine Kd.C_drew ?_))); (case side4 => exact (Kd.R_reads' HO208.out).2.1); rintro e w' ⟨rfl, ⟨nd, rfl⟩⟩; (try first | exact ⟨rfl, _, World.drewN_drewN _ _ _⟩ | exact ⟨rfl, _, Eq.trans (World.drewN_drewN _ _ _) (congrArg (World.drewN _) (Nat.add_assoc _ _ _))⟩); obtain ⟨Ao57, co57, eo57⟩ := Kd.R_slice HO221.out; subst eo57; obtain ⟨Ao58, co58, eo58⟩ := Kd.R_slice HO226.out; subst eo58) | (go_at_call 13; (with_reducible refine (laws_yTexts.calls kj7 _ _ t217 _ _ t222 true _ ?side1 ?side2 ?side3 ?side4 A42.out).mono ?_); (case side1 => repeat (first | exact (Kd.R_reads' HO221.out).2.2 | (with_reducible refine Kd.C_alloc ?_ _) | (with_reducible refine Kd.C_drewN ?_ _) | (with_reducible refine Kd.C_drew ?_))); (case side2 => exact (Kd.R_reads' HO221.out).2.1); (case side3 => repeat (first | exact (Kd.R_reads' HO226.out).2.2 | (with_reducible refine Kd.C_alloc ?_ _) | (with_reducible refine Kd.C_drewN ?_ _) | (with_reducible refine Kd.C_drew ?_))); (case side4 => exact (Kd.R_reads' HO226.out).2.1); rintro e w' ⟨rfl, ⟨nd, rfl⟩⟩; (try first | exact ⟨rfl, _, World.drewN_drewN _ _ _⟩ | exact ⟨rfl, _, Eq.trans (World.drewN_drewN _ _ _) (congrArg (World.drewN _) (Nat.add_assoc _ _ _))⟩)) | (go_at_call 14; (with_reducible refine (impl_IsState.calls a0 t229 _ A45.out).mono ?_); rintro e w59 ⟨rfl, hb⟩; have n0_ := Aside0.mk (Kd.R_below (by (with_reducible repeat (first | apply Kd.R_alloc | apply Kd.R_drewN | apply Kd.R_drew)); exact HO204.out) hb); have n1_ := Aside0.mk (Kd.R_below (by (with_reducible repeat (first | apply Kd.R_alloc | apply Kd.R_drewN | apply Kd.R_drew)); exact HO208.out) hb); have n2_ := Aside0.mk (Kd.R_below (by (with_reducible repeat (first | apply Kd.R_alloc | apply Kd.R_drewN | apply Kd.R_drew)); exact HO221.out) hb); have n3_ := Aside0.mk (Kd.R_below (by (with_reducible repeat (first | apply Kd.R_alloc | apply Kd.R_drewN | apply Kd.R_drew)); exact HO226.out) hb); have n4_ := Aside0.mk (below_step (by repeat (first | (with_reducible first | exact HB.out | apply below_alloc | apply pw_below_drewN | apply below_drew1) | exact HB.out)) hb); clear HO204; clear HO208; clear HO221; clear HO226; clear HB; have HO204 := n0_; have HO208 := n1_; have HO221 := n2_; have HO226 := n3_; have HB := n4_; clear n0_ n1_ n2_ n3_ n4_; (try clear hb); (try clear hb2); (try clear hk); (try clear hi)) | (go_at_call 14; (with_reducible refine (impl_IsState.calls a0 t229 _ A52.out).mono ?_); rintro e w60 ⟨rfl, hb⟩; have n0_ := Aside0.mk (Kd.R_below (by (with_reducible repeat (first | apply Kd.R_alloc | apply Kd.R_drewN | apply Kd.R_drew)); exact HO204.out) hb); have n1_ := Aside0.mk (Kd.R_below (by (with_reducible repeat (first | apply Kd.R_alloc | apply Kd.R_drewN | apply Kd.R_drew)); exact HO208.out) hb); have n2_ := Aside0.mk (Kd.R_below (by (with_reducible repeat (first | apply Kd.R_alloc | apply Kd.R_drewN | apply Kd.R_drew)); exact HO221.out) hb); have n3_ := Aside0.mk (Kd.R_below (by (with_reducible repeat (first | apply Kd.R_alloc | apply Kd.R_drewN | apply Kd.R_drew)); exact HO226.out) hb); have n4_ := Aside0.mk (below_step (by repeat (first | (with_reducible first | exact HB.out | apply below_alloc | apply pw_below_drewN | apply below_drew1) | exact HB.out)) hb); clear HO204; clear HO208; clear HO221; clear HO226; clear HB; have HO204 := n0_; have HO208 := n1_; have HO221 := n2_; have HO226 := n3_; have HB := n4_; clear n0_ n1_ n2_ n3_ n4_; (try clear hb); (try clear hb2); (try clear hk); (try clear hi)) | (go_at_call 15; (with_reducible refine (spec_IsState.calls kj7 a0 t231 _ A53.out).mono ?_); rintro e w' ⟨rfl, ⟨nd, rfl⟩⟩; (try first | exact ⟨rfl, _, World.drewN_drewN _ _ _⟩ | exact ⟨rfl, _, Eq.trans (World.drewN_drewN _ _ _) (congrArg (World.drewN _) (Nat.add_assoc _ _ _))⟩)))
     repeat (go_quiet (first | (go_at_call 12; (with_reducible refine (laws_ySame.calls kj7 _ _ t201 _ _ t205 true _ ?side1 ?side2 ?side3 ?side4 A29.out).mono ?_); (case side1 => repeat (first | exact (Kd.R_reads' HO204.out).2.2 | (with_reducible refine Kd.C_alloc ?_ _) | (with_reducible refine Kd.C_drewN ?_ _) | (with_reducible refine Kd.C_drew ?_))); (case side2 => exact (Kd.R_reads' HO204.out).2.1); (case side3 => repeat (first | exact (Kd.R_reads' HO208.out).2.2 | (with_reducible refine Kd.C_alloc ?_ _) | (with_reducible refine Kd.C_drewN ?_ _) | (with_reducible refine Kd.C_drew ?_))); (case side4 => exact (Kd.R_reads' HO208.out).2.1); rintro e w' ⟨rfl, ⟨nd, rfl⟩⟩; (try first | exact ⟨rfl, _, World.drewN_drewN _ _ _⟩ | exact ⟨rfl, _, Eq.trans (World.drewN_drewN _ _ _) (congrArg (World.drewN _) (Nat.add_assoc _ _ _))⟩); obtain ⟨Ao57, co57, eo57⟩ := Kd.R_slice HO221.out; subst eo57; obtain ⟨Ao58, co58, eo58⟩ := Kd.R_slice HO226.out; subst eo58) | (go_at_call 13; (with_reducible refine (laws_yTexts.calls kj7 _ _ t217 _ _ t222 true _ ?side1 ?side2 ?side3 ?side4 A42.out).mono ?_); (case side1 => repeat (first | exact (Kd.R_reads' HO221.out).2.2 | (with_reducible refine Kd.C_alloc ?_ _) | (with_reducible refine Kd.C_drewN ?_ _) | (with_reducible refine Kd.C_drew ?_))); (case side2 => exact (Kd.R_reads' HO221.out).2.1); (case side3 => repeat (first | exact (Kd.R_reads' HO226.out).2.2 | (with_reducible refine Kd.C_alloc ?_ _) | (with_reducible refine Kd.C_drewN ?_ _) | (with_reducible refine Kd.C_drew ?_))); (case side4 => exact (Kd.R_reads' HO226.out).2.1); rintro e w' ⟨rfl, ⟨nd, rfl⟩⟩; (try first | exact ⟨rfl, _, World.drewN_drewN _ _ _⟩ | exact ⟨rfl, _, Eq.trans (World.drewN_drewN _ _ _) (congrArg (World.drewN _) (Nat.add_assoc _ _ _))⟩)) | (go_at_call 14; (with_reducible refine (impl_IsState.calls a0 t229 _ A45.out).mono ?_); rintro e w59 ⟨rfl, hb⟩; have n0_ := Aside0.mk (Kd.R_below (by (with_reducible repeat (first | apply Kd.R_alloc | apply Kd.R_drewN | apply Kd.R_drew)); exact HO204.out) hb); have n1_ := Aside0.mk (Kd.R_below (by (with_reducible repeat (first | apply Kd.R_alloc | apply Kd.R_drewN | apply Kd.R_drew)); exact HO208.out) hb); have n2_ := Aside0.mk (Kd.R_below (by (with_reducible repeat (first | apply Kd.R_alloc | apply Kd.R_drewN | apply Kd.R_drew)); exact HO221.out) hb); have n3_ := Aside0.mk (Kd.R_below (by (with_reducible repeat (first | apply Kd.R_alloc | apply Kd.R_drewN | apply Kd.R_drew)); exact HO226.out) hb); have n4_ := Aside0.mk (below_step (by repeat (first | (with_reducible first | exact HB.out | apply below_alloc | apply pw_below_drewN | apply below_drew1) | exact HB.out)) hb); clear HO204; clear HO208; clear HO221; clear HO226; clear HB; have HO204 := n0_; have HO208 := n1_; have HO221 := n2_; have HO226 := n3_; have HB := n4_; clear n0_ n1_ n2_ n3_ n4_; (try clear hb); (try clear hb2); (try clear hk); (try clear hi)) | (go_at_call 14; (with_reducible refine (impl_IsState.calls a0 t229 _ A52.out).mono ?_); rintro e w60 ⟨rfl, hb⟩; have n0_ := Aside0.mk (Kd.R_below (by (with_reducible repeat (first | apply Kd.R_alloc | apply Kd.R_drewN | apply Kd.R_drew)); exact HO204.out) hb); have n1_ := Aside0.mk (Kd.R_below (by (with_reducible repeat (first | apply Kd.R_alloc | apply Kd.R_drewN | apply Kd.R_drew)); exact HO208.out) hb); have n2_ := Aside0.mk (Kd.R_below (by (with_reducible repeat (first | apply Kd.R_alloc | apply Kd.R_drewN | apply Kd.R_drew)); exact HO221.out) hb); have n3_ := Aside0.mk (Kd.R_below (by (with_reducible repeat (first | apply Kd.R_alloc | apply Kd.R_drewN | apply Kd.R_drew)); exact HO226.out) hb); have n4_ := Aside0.mk (below_step (by repeat (first | (with_reducible first | exact HB.out | apply below_alloc | apply pw_below_drewN | apply below_drew1) | exact HB.out)) hb); clear HO204; clear HO208; clear HO221; clear HO226; clear HB; have HO204 := n0_; have HO208 := n1_; have HO221 := n2_; have HO226 := n3_; have HB := n4_; clear n0_ n1_ n2_ n3_ n4_; (try clear hb); (try clear hb2); (try clear hk); (try clear hi)) | (go_at_call 15; (with_reducible refine (spec_IsState.calls kj7 a0 t231 _ A53.out).mono ?_); rintro e w' ⟨rfl, ⟨nd, rfl⟩⟩; (try first | exact ⟨rfl, _, World.drewN_drewN _ _ _⟩ | exact ⟨rfl, _, Eq.trans (World.drewN_drewN _ _ _) (congrArg (World.drewN _) (Nat.add_assoc _ _ _))⟩))); try go_wp2_with (first | (go_at_call 12; (with_reducible refine (laws_ySame.calls kj7 _ _ t201 _ _ t205 true _ ?side1 ?side2 ?side3 ?side4 A29.out).mono ?_); (case side1 => repeat (first | exact (Kd.R_reads' HO204.out).2.2 | (with_reducible refine Kd.C_alloc ?_ _) | (with_reducible refine Kd.C_drewN ?_ _) | (with_reducible refine Kd.C_drew ?_))); (case side2 => exact (Kd.R_reads' HO204.out).2.1); (case side3 => repeat (first | exact (Kd.R_reads' HO208.out).2.2 | (with_reducible refine Kd.C_alloc ?_ _) | (with_reducible refine Kd.C_drewN ?_ _) | (with_reducible refine Kd.C_drew ?_))); (case side4 => exact (Kd.R_reads' HO208.out).2.1); rintro e w' ⟨rfl, ⟨nd, rfl⟩⟩; (try first | exact ⟨rfl, _, World.drewN_drewN _ _ _⟩ | exact ⟨rfl, _, Eq.trans (World.drewN_drewN _ _ _) (congrArg (World.drewN _) (Nat.add_assoc _ _ _))⟩); obtain ⟨Ao57, co57, eo57⟩ := Kd.R_slice HO221.out; subst eo57; obtain ⟨Ao58, co58, eo58⟩ := Kd.R_slice HO226.out; subst eo58) | (go_at_call 13; (with_reducible refine (laws_yTexts.calls kj7 _ _ t217 _ _ t222 true _ ?side1 ?side2 ?side3 ?side4 A42.out).mono ?_); (case side1 => repeat (first | exact (Kd.R_reads' HO221.out).2.2 | (with_reducible refine Kd.C_alloc ?_ _) | (with_reducible refine Kd.C_drewN ?_ _) | (with_reducible refine Kd.C_drew ?_))); (case side2 => exact (Kd.R_reads' HO221.out).2.1); (case side3 => repeat (first | exact (Kd.R_reads' HO226.out).2.2 | (with_reducible refine Kd.C_alloc ?_ _) | (with_reducible refine Kd.C_drewN ?_ _) | (with_reducible refine Kd.C_drew ?_))); (case side4 => exact (Kd.R_reads' HO226.out).2.1); rintro e w' ⟨rfl, ⟨nd, rfl⟩⟩; (try first | exact ⟨rfl, _, World.drewN_drewN _ _ _⟩ | exact ⟨rfl, _, Eq.trans (World.drewN_drewN _ _ _) (congrArg (World.drewN _) (Nat.add_assoc _ _ _))⟩)) | (go_at_call 14; (with_reducible refine (impl_IsState.calls a0 t229 _ A45.out).mono ?_); rintro e w59 ⟨rfl, hb⟩; have n0_ := Aside0.mk (Kd.R_below (by (with_reducible repeat (first | apply Kd.R_alloc | apply Kd.R_drewN | apply Kd.R_drew)); exact HO204.out) hb); have n1_ := Aside0.mk (Kd.R_below (by (with_reducible repeat (first | apply Kd.R_alloc | apply Kd.R_drewN | apply Kd.R_drew)); exact HO208.out) hb); have n2_ := Aside0.mk (Kd.R_below (by (with_reducible repeat (first | apply Kd.R_alloc | apply Kd.R_drewN | apply Kd.R_drew)); exact HO221.out) hb); have n3_ := Aside0.mk (Kd.R_below (by (with_reducible repeat (first | apply Kd.R_alloc | apply Kd.R_drewN | apply Kd.R_drew)); exact HO226.out) hb); have n4_ := Aside0.mk (below_step (by repeat (first | (with_reducible first | exact HB.out | apply below_alloc | apply pw_below_drewN | apply below_drew1) | exact HB.out)) hb); clear HO204; clear HO208; clear HO221; clear HO226; clear HB; have HO204 := n0_; have HO208 := n1_; have HO221 := n2_; have HO226 := n3_; have HB := n4_; clear n0_ n1_ n2_ n3_ n4_; (try clear hb); (try clear hb2); (try clear hk); (try clear hi)) | (go_at_call 14; (with_reducible refine (impl_IsState.calls a0 t229 _ A52.out).mono ?_); rintro e w60 ⟨rfl, hb⟩; have n0_ := Aside0.mk (Kd.R_below (by (with_reducible repeat (first | apply Kd.R_alloc | apply Kd.R_drewN | apply Kd.R_drew)); exact HO204.out) hb); have n1_ := Aside0.mk (Kd.R_below (by (with_reducible repeat (first | apply Kd.R_alloc | apply Kd.R_drewN | apply Kd.R_drew)); exact HO208.out) hb); have n2_ := Aside0.mk (Kd.R_below (by (with_reducible repeat (first | apply Kd.R_alloc | apply Kd.R_drewN | apply Kd.R_drew)); exact HO221.out) hb); have n3_ := Aside0.mk (Kd.R_below (by (with_reducible repeat (first | apply Kd.R_alloc | apply Kd.R_drewN | apply Kd.R_drew)); exact HO226.out) hb); have n4_ := Aside0.mk (below_step (by repeat (first | (with_reducible first | exact HB.out | apply below_alloc | apply pw_below_drewN | apply below_drew1) | exact HB.out)) hb); clear HO204; clear HO208; clear HO221; clear HO226; clear HB; have HO204 := n0_; have HO208 := n1_; have HO221 := n2_; have HO226 := n3_; have HB := n4_; clear n0_ n1_ n2_ n3_ n4_; (try clear hb); (try clear hb2); (try clear hk); (try clear hi)) | (go_at_call 15; (with_reducible refine (spec_IsState.calls kj7 a0 t231 _ A53.out).mono ?_); rintro e w' ⟨rfl, ⟨nd, rfl⟩⟩; (try first | exact ⟨rfl, _, World.drewN_drewN _ _ _⟩ | exact ⟨rfl, _, Eq.trans (World.drewN_drewN _ _ _) (congrArg (World.drewN _) (Nat.add_assoc _ _ _))⟩))))
     refine Met.intro (hJ_ _ _ ?mg_ ?rel)
     case mg_ => kernel_rfl
     case rel => exact ⟨_, (true), (by first | rfl | ((conv => lhs; whnf); first | rfl | (simp; done) | (simp [*]; done))), H', ⟨by have := HJ7.out; first | omega | exact Nat.le_refl _⟩, ⟨by (with_reducible repeat (first | apply Kd.R_alloc | apply Kd.R_drewN | apply Kd.R_drew)); exact Kd.R_mono HO204.out (fun _ hk => trivial)⟩, ⟨by (with_reducible repeat (first | apply Kd.R_alloc | apply Kd.R_drewN | apply Kd.R_drew)); exact Kd.R_mono HO221.out (fun _ hk => trivial)⟩, ⟨by repeat (first | (with_reducible first | exact HB.out | apply below_alloc | apply pw_below_drewN | apply below_drew1) | exact HB.out)⟩⟩
    ·
     repeat revert ‹_›
     intro HP0_
     exact HP0_.out
  ·rw [if_neg c44] at H
   have c44b0 : (t218 == t223) = false := beq_eq_false_iff_ne.mpr c44
   have c44b1 : (t218 != t223) = true := bne_iff_ne.mpr c44
   have H' := Aside0.mk H
   clear H
   obtain ⟨Ao81, co81, eo81⟩ := Kd.R_slice HO204.out
   subst eo81
   obtain ⟨Ao82, co82, eo82⟩ := Kd.R_slice HO208.out
   subst eo82
   go_wp2_with (first | (go_at_call 12; (with_reducible refine (laws_ySame.calls kj7 _ _ t201 _ _ t205 true _ ?side1 ?side2 ?side3 ?side4 A29.out).mono ?_); (case side1 => repeat (first | exact (Kd.R_reads' HO204.out).2.2 | (with_reducible refine Kd.C_alloc ?_ _) | (with_reducible refine Kd.C_drewN ?_ _) | (with_reducible refine Kd.C_drew ?_))); (case side2 => exact (Kd.R_reads' HO204.out).2.1); (case side3 => repeat (first | exact (Kd.R_reads' HO208.out).2.2 | (with_reducible refine Kd.C_alloc ?_ _) | (with_reducible refine Kd.C_drewN ?_ _) | (with_reducible refine Kd.C_drew ?_))); (case side4 => exact (Kd.R_reads' HO208.out).2.1); rintro e w' ⟨rfl, ⟨nd, rfl⟩⟩; (try first | exact ⟨rfl, _, World.drewN_drewN _ _ _⟩ | exact ⟨rfl, _, Eq.trans (World.drewN_drewN _ _ _) (congrArg (World.drewN _) (Nat.add_assoc _ _ _))⟩); obtain ⟨Ao83, co83, eo83⟩ := Kd.R_slice HO221.out; subst eo83; obtain ⟨Ao84, co84, eo84⟩ := Kd.R_slice HO226.out; subst eo84) | (go_at_call 13; (with_reducible refine (laws_yTexts.calls kj7 _ _ t217 _ _ t222 true _ ?side1 ?side2 ?side3 ?side4 A42.out).mono ?_); (case side1 => repeat (first | exact (Kd.R_reads' HO221.out).2.2 | (with_reducible refine Kd.C_alloc ?_ _) | (with_reducible refine Kd.C_drewN ?_ _) | (with_reducible refine Kd.C_drew ?_))); (case side2 => exact (Kd.R_reads' HO221.out).2.1); (case side3 => repeat (first | exact (Kd.R_reads' HO226.out).2.2 | (with_reducible refine Kd.C_alloc ?_ _) | (with_reducible refine Kd.C_drewN ?_ _) | (with_reducible refine Kd.C_drew ?_))); (case side4 => exact (Kd.R_reads' HO226.out).2.1); rintro e w' ⟨rfl, ⟨nd, rfl⟩⟩; (try first | exact ⟨rfl, _, World.drewN_drewN _ _ _⟩ | exact ⟨rfl, _, Eq.trans (World.drewN_drewN _ _ _) (congrArg (World.drewN _) (Nat.add_assoc _ _ _))⟩)))
   repeat (go_quiet (first | (go_at_call 12; (with_reducible refine (laws_ySame.calls kj7 _ _ t201 _ _ t205 true _ ?side1 ?side2 ?side3 ?side4 A29.out).mono ?_); (case side1 => repeat (first | exact (Kd.R_reads' HO204.out).2.2 | (with_reducible refine Kd.C_alloc ?_ _) | (with_reducible refine Kd.C_drewN ?_ _) | (with_reducible refine Kd.C_drew ?_))); (case side2 => exact (Kd.R_reads' HO204.out).2.1); (case side3 => repeat (first | exact (Kd.R_reads' HO208.out).2.2 | (with_reducible refine Kd.C_alloc ?_ _) | (with_reducible refine Kd.C_drewN ?_ _) | (with_reducible refine Kd.C_drew ?_))); (case side4 => exact (Kd.R_reads' HO208.out).2.1); rintro e w' ⟨rfl, ⟨nd, rfl⟩⟩; (try first | exact ⟨rfl, _, World.drewN_drewN _ _ _⟩ | exact ⟨rfl, _, Eq.trans (World.drewN_drewN _ _ _) (congrArg (World.drewN _) (Nat.add_assoc _ _ _))⟩); obtain ⟨Ao83, co83, eo83⟩ := Kd.R_slice HO221.out; subst eo83; obtain ⟨Ao84, co84, eo84⟩ := Kd.R_slice HO226.out; subst eo84) | (go_at_call 13; (with_reducible refine (laws_yTexts.calls kj7 _ _ t217 _ _ t222 true _ ?side1 ?side2 ?side3 ?side4 A42.out).mono ?_); (case side1 => repeat (first | exact (Kd.R_reads' HO221.out).2.2 | (with_reducible refine Kd.C_alloc ?_ _) | (with_reducible refine Kd.C_drewN ?_ _) | (with_reducible refine Kd.C_drew ?_))); (case side2 => exact (Kd.R_reads' HO221.out).2.1); (case side3 => repeat (first | exact (Kd.R_reads' HO226.out).2.2 | (with_reducible refine Kd.C_alloc ?_ _) | (with_reducible refine Kd.C_drewN ?_ _) | (with_reducible refine Kd.C_drew ?_))); (case side4 => exact (Kd.R_reads' HO226.out).2.1); rintro e w' ⟨rfl, ⟨nd, rfl⟩⟩; (try first | exact ⟨rfl, _, World.drewN_drewN _ _ _⟩ | exact ⟨rfl, _, Eq.trans (World.drewN_drewN _ _ _) (congrArg (World.drewN _) (Nat.add_assoc _ _ _))⟩))); try go_wp2_with (first | (go_at_call 12; (with_reducible refine (laws_ySame.calls kj7 _ _ t201 _ _ t205 true _ ?side1 ?side2 ?side3 ?side4 A29.out).mono ?_); (case side1 => repeat (first | exact (Kd.R_reads' HO204.out).2.2 | (with_reducible refine Kd.C_alloc ?_ _) | (with_reducible refine Kd.C_drewN ?_ _) | (with_reducible refine Kd.C_drew ?_))); (case side2 => exact (Kd.R_reads' HO204.out).2.1); (case side3 => repeat (first | exact (Kd.R_reads' HO208.out).2.2 | (with_reducible refine Kd.C_alloc ?_ _) | (with_reducible refine Kd.C_drewN ?_ _) | (with_reducible refine Kd.C_drew ?_))); (case side4 => exact (Kd.R_reads' HO208.out).2.1); rintro e w' ⟨rfl, ⟨nd, rfl⟩⟩; (try first | exact ⟨rfl, _, World.drewN_drewN _ _ _⟩ | exact ⟨rfl, _, Eq.trans (World.drewN_drewN _ _ _) (congrArg (World.drewN _) (Nat.add_assoc _ _ _))⟩); obtain ⟨Ao83, co83, eo83⟩ := Kd.R_slice HO221.out; subst eo83; obtain ⟨Ao84, co84, eo84⟩ := Kd.R_slice HO226.out; subst eo84) | (go_at_call 13; (with_reducible refine (laws_yTexts.calls kj7 _ _ t217 _ _ t222 true _ ?side1 ?side2 ?side3 ?side4 A42.out).mono ?_); (case side1 => repeat (first | exact (Kd.R_reads' HO221.out).2.2 | (with_reducible refine Kd.C_alloc ?_ _) | (with_reducible refine Kd.C_drewN ?_ _) | (with_reducible refine Kd.C_drew ?_))); (case side2 => exact (Kd.R_reads' HO221.out).2.1); (case side3 => repeat (first | exact (Kd.R_reads' HO226.out).2.2 | (with_reducible refine Kd.C_alloc ?_ _) | (with_reducible refine Kd.C_drewN ?_ _) | (with_reducible refine Kd.C_drew ?_))); (case side4 => exact (Kd.R_reads' HO226.out).2.1); rintro e w' ⟨rfl, ⟨nd, rfl⟩⟩; (try first | exact ⟨rfl, _, World.drewN_drewN _ _ _⟩ | exact ⟨rfl, _, Eq.trans (World.drewN_drewN _ _ _) (congrArg (World.drewN _) (Nat.add_assoc _ _ _))⟩))))
   refine Met.intro (hJ_ _ _ ?mg_ ?rel)
   case mg_ => kernel_rfl
   case rel => exact ⟨_, (true), (by first | rfl | ((conv => lhs; whnf); first | rfl | (simp; done) | (simp [*]; done))), H', ⟨by have := HJ7.out; first | omega | exact Nat.le_refl _⟩, ⟨by (with_reducible repeat (first | apply Kd.R_alloc | apply Kd.R_drewN | apply Kd.R_drew)); exact Kd.R_mono HO204.out (fun _ hk => trivial)⟩, ⟨by (with_reducible repeat (first | apply Kd.R_alloc | apply Kd.R_drewN | apply Kd.R_drew)); exact Kd.R_mono HO221.out (fun _ hk => trivial)⟩, ⟨by repeat (first | (with_reducible first | exact HB.out | apply below_alloc | apply pw_below_drewN | apply below_drew1) | exact HB.out)⟩⟩
 ·replace c43 := Bool.eq_false_iff.mpr c43
  subst c43
  rw [if_neg (show ¬ (false = true) by decide)] at H
  have H1 := H
  clear H
  have H := H1
  clear H1
  have H' := Aside0.mk H
  clear H
  obtain ⟨Ao85, co85, eo85⟩ := Kd.R_slice HO204.out
  subst eo85
  obtain ⟨Ao86, co86, eo86⟩ := Kd.R_slice HO208.out
  subst eo86
  go_wp2_with (first | (go_at_call 12; (with_reducible refine (laws_ySame.calls kj7 _ _ t201 _ _ t205 true _ ?side1 ?side2 ?side3 ?side4 A29.out).mono ?_); (case side1 => repeat (first | exact (Kd.R_reads' HO204.out).2.2 | (with_reducible refine Kd.C_alloc ?_ _) | (with_reducible refine Kd.C_drewN ?_ _) | (with_reducible refine Kd.C_drew ?_))); (case side2 => exact (Kd.R_reads' HO204.out).2.1); (case side3 => repeat (first | exact (Kd.R_reads' HO208.out).2.2 | (with_reducible refine Kd.C_alloc ?_ _) | (with_reducible refine Kd.C_drewN ?_ _) | (with_reducible refine Kd.C_drew ?_))); (case side4 => exact (Kd.R_reads' HO208.out).2.1); rintro e w' ⟨rfl, ⟨nd, rfl⟩⟩; (try first | exact ⟨rfl, _, World.drewN_drewN _ _ _⟩ | exact ⟨rfl, _, Eq.trans (World.drewN_drewN _ _ _) (congrArg (World.drewN _) (Nat.add_assoc _ _ _))⟩); obtain ⟨Ao87, co87, eo87⟩ := Kd.R_slice HO221.out; subst eo87; obtain ⟨Ao88, co88, eo88⟩ := Kd.R_slice HO226.out; subst eo88) | (go_at_call 13; (with_reducible refine (laws_yTexts.calls kj7 _ _ t217 _ _ t222 false _ ?side1 ?side2 ?side3 ?side4 A42.out).mono ?_); (case side1 => repeat (first | exact (Kd.R_reads' HO221.out).2.2 | (with_reducible refine Kd.C_alloc ?_ _) | (with_reducible refine Kd.C_drewN ?_ _) | (with_reducible refine Kd.C_drew ?_))); (case side2 => exact (Kd.R_reads' HO221.out).2.1); (case side3 => repeat (first | exact (Kd.R_reads' HO226.out).2.2 | (with_reducible refine Kd.C_alloc ?_ _) | (with_reducible refine Kd.C_drewN ?_ _) | (with_reducible refine Kd.C_drew ?_))); (case side4 => exact (Kd.R_reads' HO226.out).2.1); rintro e w' ⟨rfl, ⟨nd, rfl⟩⟩; (try first | exact ⟨rfl, _, World.drewN_drewN _ _ _⟩ | exact ⟨rfl, _, Eq.trans (World.drewN_drewN _ _ _) (congrArg (World.drewN _) (Nat.add_assoc _ _ _))⟩)))
  repeat (go_quiet (first | (go_at_call 12; (with_reducible refine (laws_ySame.calls kj7 _ _ t201 _ _ t205 true _ ?side1 ?side2 ?side3 ?side4 A29.out).mono ?_); (case side1 => repeat (first | exact (Kd.R_reads' HO204.out).2.2 | (with_reducible refine Kd.C_alloc ?_ _) | (with_reducible refine Kd.C_drewN ?_ _) | (with_reducible refine Kd.C_drew ?_))); (case side2 => exact (Kd.R_reads' HO204.out).2.1); (case side3 => repeat (first | exact (Kd.R_reads' HO208.out).2.2 | (with_reducible refine Kd.C_alloc ?_ _) | (with_reducible refine Kd.C_drewN ?_ _) | (with_reducible refine Kd.C_drew ?_))); (case side4 => exact (Kd.R_reads' HO208.out).2.1); rintro e w' ⟨rfl, ⟨nd, rfl⟩⟩; (try first | exact ⟨rfl, _, World.drewN_drewN _ _ _⟩ | exact ⟨rfl, _, Eq.trans (World.drewN_drewN _ _ _) (congrArg (World.drewN _) (Nat.add_assoc _ _ _))⟩); obtain ⟨Ao87, co87, eo87⟩ := Kd.R_slice HO221.out; subst eo87; obtain ⟨Ao88, co88, eo88⟩ := Kd.R_slice HO226.out; subst eo88) | (go_at_call 13; (with_reducible refine (laws_yTexts.calls kj7 _ _ t217 _ _ t222 false _ ?side1 ?side2 ?side3 ?side4 A42.out).mono ?_); (case side1 => repeat (first | exact (Kd.R_reads' HO221.out).2.2 | (with_reducible refine Kd.C_alloc ?_ _) | (with_reducible refine Kd.C_drewN ?_ _) | (with_reducible refine Kd.C_drew ?_))); (case side2 => exact (Kd.R_reads' HO221.out).2.1); (case side3 => repeat (first | exact (Kd.R_reads' HO226.out).2.2 | (with_reducible refine Kd.C_alloc ?_ _) | (with_reducible refine Kd.C_drewN ?_ _) | (with_reducible refine Kd.C_drew ?_))); (case side4 => exact (Kd.R_reads' HO226.out).2.1); rintro e w' ⟨rfl, ⟨nd, rfl⟩⟩; (try first | exact ⟨rfl, _, World.drewN_drewN _ _ _⟩ | exact ⟨rfl, _, Eq.trans (World.drewN_drewN _ _ _) (congrArg (World.drewN _) (Nat.add_assoc _ _ _))⟩))); try go_wp2_with (first | (go_at_call 12; (with_reducible refine (laws_ySame.calls kj7 _ _ t201 _ _ t205 true _ ?side1 ?side2 ?side3 ?side4 A29.out).mono ?_); (case side1 => repeat (first | exact (Kd.R_reads' HO204.out).2.2 | (with_reducible refine Kd.C_alloc ?_ _) | (with_reducible refine Kd.C_drewN ?_ _) | (with_reducible refine Kd.C_drew ?_))); (case side2 => exact (Kd.R_reads' HO204.out).2.1); (case side3 => repeat (first | exact (Kd.R_reads' HO208.out).2.2 | (with_reducible refine Kd.C_alloc ?_ _) | (with_reducible refine Kd.C_drewN ?_ _) | (with_reducible refine Kd.C_drew ?_))); (case side4 => exact (Kd.R_reads' HO208.out).2.1); rintro e w' ⟨rfl, ⟨nd, rfl⟩⟩; (try first | exact ⟨rfl, _, World.drewN_drewN _ _ _⟩ | exact ⟨rfl, _, Eq.trans (World.drewN_drewN _ _ _) (congrArg (World.drewN _) (Nat.add_assoc _ _ _))⟩); obtain ⟨Ao87, co87, eo87⟩ := Kd.R_slice HO221.out; subst eo87; obtain ⟨Ao88, co88, eo88⟩ := Kd.R_slice HO226.out; subst eo88) | (go_at_call 13; (with_reducible refine (laws_yTexts.calls kj7 _ _ t217 _ _ t222 false _ ?side1 ?side2 ?side3 ?side4 A42.out).mono ?_); (case side1 => repeat (first | exact (Kd.R_reads' HO221.out).2.2 | (with_reducible refine Kd.C_alloc ?_ _) | (with_reducible refine Kd.C_drewN ?_ _) | (with_reducible refine Kd.C_drew ?_))); (case side2 => exact (Kd.R_reads' HO221.out).2.1); (case side3 => repeat (first | exact (Kd.R_reads' HO226.out).2.2 | (with_reducible refine Kd.C_alloc ?_ _) | (with_reducible refine Kd.C_drewN ?_ _) | (with_reducible refine Kd.C_drew ?_))); (case side4 => exact (Kd.R_reads' HO226.out).2.1); rintro e w' ⟨rfl, ⟨nd, rfl⟩⟩; (try first | exact ⟨rfl, _, World.drewN_drewN _ _ _⟩ | exact ⟨rfl, _, Eq.trans (World.drewN_drewN _ _ _) (congrArg (World.drewN _) (Nat.add_assoc _ _ _))⟩))))
  refine Met.intro (hJ_ _ _ ?mg_ ?rel)
  case mg_ => kernel_rfl
  case rel => exact ⟨_, (true), (by first | rfl | ((conv => lhs; whnf); first | rfl | (simp; done) | (simp [*]; done))), H', ⟨by have := HJ7.out; first | omega | exact Nat.le_refl _⟩, ⟨by (with_reducible repeat (first | apply Kd.R_alloc | apply Kd.R_drewN | apply Kd.R_drew)); exact Kd.R_mono HO204.out (fun _ hk => trivial)⟩, ⟨by (with_reducible repeat (first | apply Kd.R_alloc | apply Kd.R_drewN | apply Kd.R_drew)); exact Kd.R_mono HO221.out (fun _ hk => trivial)⟩, ⟨by repeat (first | (with_reducible first | exact HB.out | apply below_alloc | apply pw_below_drewN | apply below_drew1) | exact HB.out)⟩⟩

def laws_FnRingsMoveOfAll.c4 : PSigma fun P0_ : Prop => Hole P0_ → laws_FnRingsMoveOfAll.c3.1 := by
 refine' ⟨_, fun HP0_ => _⟩
 rotate_left 1
 intro k a0 a1 A2 c2 l2 a3 a4 a5 a6 r w HR2 HC2 _ _ f_ wc kj7 HJ7 t201 t202 A13 t205 t209 t210 A15 t211 t213 t214 A17 t215 t217 t218 t219 A19 t222 t223 w22 v203 w23 v207 w24 _ w25 nd w26 v220 w27 v225 HO204 HO208 HO221 HO226 HB _ _ _ _ J_ K_ hK_ A14 c28b0 c28b1 c28b2 A29 A16 c31b0 c31b1 c31b2 c34b0 c34b1 A18 c35b0 c35b1 c35b2 c38b0 c38b1 A20 hJ_ c39b0 c39b1 c39b2 A42 c44b0 c44b1 t229 A45 c46b0 c46b1 c46b2 A52 t231 H A53 c54
 rw [if_neg c54] at H
 have c54b0 : (t229 != t231) = false := by simpa using c54
 (try (have c54b1 : decide (t229 = t231) = true := by simpa using c54))
 (try (have c54b2 : (t229 == t231) = true := by simpa using c54))
 clear c54
 by_cases c61 : (t210 != t202) = true
 ·rw [if_pos c61] at H
  have c61b0 : (t210 != t202) = true := c61
  (try (have c61b1 : decide (t210 = t202) = false := by simpa using c61))
  (try (have c61b2 : (t210 == t202) = false := by simpa using c61))
  (try (have c61b3 : ¬ (t210 = t202) := by simpa using c61))
  clear c61
  have H' := Aside0.mk H
  clear H
  obtain ⟨Ao62, co62, eo62⟩ := Kd.R_slice HO204.out
  subst eo62
  obtain ⟨Ao63, co63, eo63⟩ := Kd.R_slice HO208.out
  subst eo63
  go_wp2_with (first | (go_at_call 12; (with_reducible refine (laws_ySame.calls kj7 _ _ t201 _ _ t205 true _ ?side1 ?side2 ?side3 ?side4 A29.out).mono ?_); (case side1 => repeat (first | exact (Kd.R_reads' HO204.out).2.2 | (with_reducible refine Kd.C_alloc ?_ _) | (with_reducible refine Kd.C_drewN ?_ _) | (with_reducible refine Kd.C_drew ?_))); (case side2 => exact (Kd.R_reads' HO204.out).2.1); (case side3 => repeat (first | exact (Kd.R_reads' HO208.out).2.2 | (with_reducible refine Kd.C_alloc ?_ _) | (with_reducible refine Kd.C_drewN ?_ _) | (with_reducible refine Kd.C_drew ?_))); (case side4 => exact (Kd.R_reads' HO208.out).2.1); rintro e w' ⟨rfl, ⟨nd, rfl⟩⟩; (try first | exact ⟨rfl, _, World.drewN_drewN _ _ _⟩ | exact ⟨rfl, _, Eq.trans (World.drewN_drewN _ _ _) (congrArg (World.drewN _) (Nat.add_assoc _ _ _))⟩); obtain ⟨Ao64, co64, eo64⟩ := Kd.R_slice HO221.out; subst eo64; obtain ⟨Ao65, co65, eo65⟩ := Kd.R_slice HO226.out; subst eo65) | (go_at_call 13; (with_reducible refine (laws_yTexts.calls kj7 _ _ t217 _ _ t222 true _ ?side1 ?side2 ?side3 ?side4 A42.out).mono ?_); (case side1 => repeat (first | exact (Kd.R_reads' HO221.out).2.2 | (with_reducible refine Kd.C_alloc ?_ _) | (with_reducible refine Kd.C_drewN ?_ _) | (with_reducible refine Kd.C_drew ?_))); (case side2 => exact (Kd.R_reads' HO221.out).2.1); (case side3 => repeat (first | exact (Kd.R_reads' HO226.out).2.2 | (with_reducible refine Kd.C_alloc ?_ _) | (with_reducible refine Kd.C_drewN ?_ _) | (with_reducible refine Kd.C_drew ?_))); (case side4 => exact (Kd.R_reads' HO226.out).2.1); rintro e w' ⟨rfl, ⟨nd, rfl⟩⟩; (try first | exact ⟨rfl, _, World.drewN_drewN _ _ _⟩ | exact ⟨rfl, _, Eq.trans (World.drewN_drewN _ _ _) (congrArg (World.drewN _) (Nat.add_assoc _ _ _))⟩)) | (go_at_call 14; (with_reducible refine (impl_IsState.calls a0 t229 _ A45.out).mono ?_); rintro e w66 ⟨rfl, hb⟩; have n0_ := Aside0.mk (Kd.R_below (by (with_reducible repeat (first | apply Kd.R_alloc | apply Kd.R_drewN | apply Kd.R_drew)); exact HO204.out) hb); have n1_ := Aside0.mk (Kd.R_below (by (with_reducible repeat (first | apply Kd.R_alloc | apply Kd.R_drewN | apply Kd.R_drew)); exact HO208.out) hb); have n2_ := Aside0.mk (Kd.R_below (by (with_reducible repeat (first | apply Kd.R_alloc | apply Kd.R_drewN | apply Kd.R_drew)); exact HO221.out) hb); have n3_ := Aside0.mk (Kd.R_below (by (with_reducible repeat (first | apply Kd.R_alloc | apply Kd.R_drewN | apply Kd.R_drew)); exact HO226.out) hb); have n4_ := Aside0.mk (below_step (by repeat (first | (with_reducible first | exact HB.out | apply below_alloc | apply pw_below_drewN | apply below_drew1) | exact HB.out)) hb); clear HO204; clear HO208; clear HO221; clear HO226; clear HB; have HO204 := n0_; have HO208 := n1_; have HO221 := n2_; have HO226 := n3_; have HB := n4_; clear n0_ n1_ n2_ n3_ n4_; (try clear hb); (try clear hb2); (try clear hk); (try clear hi)) | (go_at_call 14; (with_reducible refine (impl_IsState.calls a0 t229 _ A52.out).mono ?_); rintro e w67 ⟨rfl, hb⟩; have n0_ := Aside0.mk (Kd.R_below (by (with_reducible repeat (first | apply Kd.R_alloc | apply Kd.R_drewN | apply Kd.R_drew)); exact HO204.out) hb); have n1_ := Aside0.mk (Kd.R_below (by (with_reducible repeat (first | apply Kd.R_alloc | apply Kd.R_drewN | apply Kd.R_drew)); exact HO208.out) hb); have n2_ := Aside0.mk (Kd.R_below (by (with_reducible repeat (first | apply Kd.R_alloc | apply Kd.R_drewN | apply Kd.R_drew)); exact HO221.out) hb); have n3_ := Aside0.mk (Kd.R_below (by (with_reducible repeat (first | apply Kd.R_alloc | apply Kd.R_drewN | apply Kd.R_drew)); exact HO226.out) hb); have n4_ := Aside0.mk (below_step (by repeat (first | (with_reducible first | exact HB.out | apply below_alloc | apply pw_below_drewN | apply below_drew1) | exact HB.out)) hb); clear HO204; clear HO208; clear HO221; clear HO226; clear HB; have HO204 := n0_; have HO208 := n1_; have HO221 := n2_; have HO226 := n3_; have HB := n4_; clear n0_ n1_ n2_ n3_ n4_; (try clear hb); (try clear hb2); (try clear hk); (try clear hi)) | (go_at_call 15; (with_reducible refine (spec_IsState.calls kj7 a0 t231 _ A53.out).mono ?_); rintro e w' ⟨rfl, ⟨nd, rfl⟩⟩; (try first | exact ⟨rfl, _, World.drewN_drewN _ _ _⟩ | exact ⟨rfl, _, Eq.trans (World.drewN_drewN _ _ _) (congrArg (World.drewN _) (Nat.add_assoc _ _ _))⟩)))
  repeat (go_quiet (first | (go_at_call 12; (with_reducible refine (laws_ySame.calls kj7 _ _ t201 _ _ t205 true _ ?side1 ?side2 ?side3 ?side4 A29.out).mono ?_); (case side1 => repeat (first | exact (Kd.R_reads' HO204.out).2.2 | (with_reducible refine Kd.C_alloc ?_ _) | (with_reducible refine Kd.C_drewN ?_ _) | (with_reducible refine Kd.C_drew ?_))); (case side2 => exact (Kd.R_reads' HO204.out).2.1); (case side3 => repeat (first | exact (Kd.R_reads' HO208.out).2.2 | (with_reducible refine Kd.C_alloc ?_ _) | (with_reducible refine Kd.C_drewN ?_ _) | (with_reducible refine Kd.C_drew ?_))); (case side4 => exact (Kd.R_reads' HO208.out).2.1); rintro e w' ⟨rfl, ⟨nd, rfl⟩⟩; (try first | exact ⟨rfl, _, World.drewN_drewN _ _ _⟩ | exact ⟨rfl, _, Eq.trans (World.drewN_drewN _ _ _) (congrArg (World.drewN _) (Nat.add_assoc _ _ _))⟩); obtain ⟨Ao64, co64, eo64⟩ := Kd.R_slice HO221.out; subst eo64; obtain ⟨Ao65, co65, eo65⟩ := Kd.R_slice HO226.out; subst eo65) | (go_at_call 13; (with_reducible refine (laws_yTexts.calls kj7 _ _ t217 _ _ t222 true _ ?side1 ?side2 ?side3 ?side4 A42.out).mono ?_); (case side1 => repeat (first | exact (Kd.R_reads' HO221.out).2.2 | (with_reducible refine Kd.C_alloc ?_ _) | (with_reducible refine Kd.C_drewN ?_ _) | (with_reducible refine Kd.C_drew ?_))); (case side2 => exact (Kd.R_reads' HO221.out).2.1); (case side3 => repeat (first | exact (Kd.R_reads' HO226.out).2.2 | (with_reducible refine Kd.C_alloc ?_ _) | (with_reducible refine Kd.C_drewN ?_ _) | (with_reducible refine Kd.C_drew ?_))); (case side4 => exact (Kd.R_reads' HO226.out).2.1); rintro e w' ⟨rfl, ⟨nd, rfl⟩⟩; (try first | exact ⟨rfl, _, World.drewN_drewN _ _ _⟩ | exact ⟨rfl, _, Eq.trans (World.drewN_drewN _ _ _) (congrArg (World.drewN _) (Nat.add_assoc _ _ _))⟩)) | (go_at_call 14; (with_reducible refine (impl_IsState.calls a0 t229 _ A45.out).mono ?_); rintro e w66 ⟨rfl, hb⟩; have n0_ := Aside0.mk (Kd.R_below (by (with_reducible repeat (first | apply Kd.R_alloc | apply Kd.R_drewN | apply Kd.R_drew)); exact HO204.out) hb); have n1_ := Aside0.mk (Kd.R_below (by (with_reducible repeat (first | apply Kd.R_alloc | apply Kd.R_drewN | apply Kd.R_drew)); exact HO208.out) hb); have n2_ := Aside0.mk (Kd.R_below (by (with_reducible repeat (first | apply Kd.R_alloc | apply Kd.R_drewN | apply Kd.R_drew)); exact HO221.out) hb); have n3_ := Aside0.mk (Kd.R_below (by (with_reducible repeat (first | apply Kd.R_alloc | apply Kd.R_drewN | apply Kd.R_drew)); exact HO226.out) hb); have n4_ := Aside0.mk (below_step (by repeat (first | (with_reducible first | exact HB.out | apply below_alloc | apply pw_below_drewN | apply below_drew1) | exact HB.out)) hb); clear HO204; clear HO208; clear HO221; clear HO226; clear HB; have HO204 := n0_; have HO208 := n1_; have HO221 := n2_; have HO226 := n3_; have HB := n4_; clear n0_ n1_ n2_ n3_ n4_; (try clear hb); (try clear hb2); (try clear hk); (try clear hi)) | (go_at_call 14; (with_reducible refine (impl_IsState.calls a0 t229 _ A52.out).mono ?_); rintro e w67 ⟨rfl, hb⟩; have n0_ := Aside0.mk (Kd.R_below (by (with_reducible repeat (first | apply Kd.R_alloc | apply Kd.R_drewN | apply Kd.R_drew)); exact HO204.out) hb); have n1_ := Aside0.mk (Kd.R_below (by (with_reducible repeat (first | apply Kd.R_alloc | apply Kd.R_drewN | apply Kd.R_drew)); exact HO208.out) hb); have n2_ := Aside0.mk (Kd.R_below (by (with_reducible repeat (first | apply Kd.R_alloc | apply Kd.R_drewN | apply Kd.R_drew)); exact HO221.out) hb); have n3_ := Aside0.mk (Kd.R_below (by (with_reducible repeat (first | apply Kd.R_alloc | apply Kd.R_drewN | apply Kd.R_drew)); exact HO226.out) hb); have n4_ := Aside0.mk (below_step (by repeat (first | (with_reducible first | exact HB.out | apply below_alloc | apply pw_below_drewN | apply below_drew1) | exact HB.out)) hb); clear HO204; clear HO208; clear HO221; clear HO226; clear HB; have HO204 := n0_; have HO208 := n1_; have HO221 := n2_; have HO226 := n3_; have HB := n4_; clear n0_ n1_ n2_ n3_ n4_; (try clear hb); (try clear hb2); (try clear hk); (try clear hi)) | (go_at_call 15; (with_reducible refine (spec_IsState.calls kj7 a0 t231 _ A53.out).mono ?_); rintro e w' ⟨rfl, ⟨nd, rfl⟩⟩; (try first | exact ⟨rfl, _, World.drewN_drewN _ _ _⟩ | exact ⟨rfl, _, Eq.trans (World.drewN_drewN _ _ _) (congrArg (World.drewN _) (Nat.add_assoc _ _ _))⟩))); try go_wp2_with (first | (go_at_call 12; (with_reducible refine (laws_ySame.calls kj7 _ _ t201 _ _ t205 true _ ?side1 ?side2 ?side3 ?side4 A29.out).mono ?_); (case side1 => repeat (first | exact (Kd.R_reads' HO204.out).2.2 | (with_reducible refine Kd.C_alloc ?_ _) | (with_reducible refine Kd.C_drewN ?_ _) | (with_reducible refine Kd.C_drew ?_))); (case side2 => exact (Kd.R_reads' HO204.out).2.1); (case side3 => repeat (first | exact (Kd.R_reads' HO208.out).2.2 | (with_reducible refine Kd.C_alloc ?_ _) | (with_reducible refine Kd.C_drewN ?_ _) | (with_reducible refine Kd.C_drew ?_))); (case side4 => exact (Kd.R_reads' HO208.out).2.1); rintro e w' ⟨rfl, ⟨nd, rfl⟩⟩; (try first | exact ⟨rfl, _, World.drewN_drewN _ _ _⟩ | exact ⟨rfl, _, Eq.trans (World.drewN_drewN _ _ _) (congrArg (World.drewN _) (Nat.add_assoc _ _ _))⟩); obtain ⟨Ao64, co64, eo64⟩ := Kd.R_slice HO221.out; subst eo64; obtain ⟨Ao65, co65, eo65⟩ := Kd.R_slice HO226.out; subst eo65) | (go_at_call 13; (with_reducible refine (laws_yTexts.calls kj7 _ _ t217 _ _ t222 true _ ?side1 ?side2 ?side3 ?side4 A42.out).mono ?_); (case side1 => repeat (first | exact (Kd.R_reads' HO221.out).2.2 | (with_reducible refine Kd.C_alloc ?_ _) | (with_reducible refine Kd.C_drewN ?_ _) | (with_reducible refine Kd.C_drew ?_))); (case side2 => exact (Kd.R_reads' HO221.out).2.1); (case side3 => repeat (first | exact (Kd.R_reads' HO226.out).2.2 | (with_reducible refine Kd.C_alloc ?_ _) | (with_reducible refine Kd.C_drewN ?_ _) | (with_reducible refine Kd.C_drew ?_))); (case side4 => exact (Kd.R_reads' HO226.out).2.1); rintro e w' ⟨rfl, ⟨nd, rfl⟩⟩; (try first | exact ⟨rfl, _, World.drewN_drewN _ _ _⟩ | exact ⟨rfl, _, Eq.trans (World.drewN_drewN _ _ _) (congrArg (World.drewN _) (Nat.add_assoc _ _ _))⟩)) | (go_at_call 14; (with_reducible refine (impl_IsState.calls a0 t229 _ A45.out).mono ?_); rintro e w66 ⟨rfl, hb⟩; have n0_ := Aside0.mk (Kd.R_below (by (with_reducible repeat (first | apply Kd.R_alloc | apply Kd.R_drewN | apply Kd.R_drew)); exact HO204.out) hb); have n1_ := Aside0.mk (Kd.R_below (by (with_reducible repeat (first | apply Kd.R_alloc | apply Kd.R_drewN | apply Kd.R_drew)); exact HO208.out) hb); have n2_ := Aside0.mk (Kd.R_below (by (with_reducible repeat (first | apply Kd.R_alloc | apply Kd.R_drewN | apply Kd.R_drew)); exact HO221.out) hb); have n3_ := Aside0.mk (Kd.R_below (by (with_reducible repeat (first | apply Kd.R_alloc | apply Kd.R_drewN | apply Kd.R_drew)); exact HO226.out) hb); have n4_ := Aside0.mk (below_step (by repeat (first | (with_reducible first | exact HB.out | apply below_alloc | apply pw_below_drewN | apply below_drew1) | exact HB.out)) hb); clear HO204; clear HO208; clear HO221; clear HO226; clear HB; have HO204 := n0_; have HO208 := n1_; have HO221 := n2_; have HO226 := n3_; have HB := n4_; clear n0_ n1_ n2_ n3_ n4_; (try clear hb); (try clear hb2); (try clear hk); (try clear hi)) | (go_at_call 14; (with_reducible refine (impl_IsState.calls a0 t229 _ A52.out).mono ?_); rintro e w67 ⟨rfl, hb⟩; have n0_ := Aside0.mk (Kd.R_below (by (with_reducible repeat (first | apply Kd.R_alloc | apply Kd.R_drewN | apply Kd.R_drew)); exact HO204.out) hb); have n1_ := Aside0.mk (Kd.R_below (by (with_reducible repeat (first | apply Kd.R_alloc | apply Kd.R_drewN | apply Kd.R_drew)); exact HO208.out) hb); have n2_ := Aside0.mk (Kd.R_below (by (with_reducible repeat (first | apply Kd.R_alloc | apply Kd.R_drewN | apply Kd.R_drew)); exact HO221.out) hb); have n3_ := Aside0.mk (Kd.R_below (by (with_reducible repeat (first | apply Kd.R_alloc | apply Kd.R_drewN | apply Kd.R_drew)); exact HO226.out) hb); have n4_ := Aside0.mk (below_step (by repeat (first | (with_reducible first | exact HB.out | apply below_alloc | apply pw_below_drewN | apply below_drew1) | exact HB.out)) hb); clear HO204; clear HO208; clear HO221; clear HO226; clear HB; have HO204 := n0_; have HO208 := n1_; have HO221 := n2_; have HO226 := n3_; have HB := n4_; clear n0_ n1_ n2_ n3_ n4_; (try clear hb); (try clear hb2); (try clear hk); (try clear hi)) | (go_at_call 15; (with_reducible refine (spec_IsState.calls kj7 a0 t231 _ A53.out).mono ?_); rintro e w' ⟨rfl, ⟨nd, rfl⟩⟩; (try first | exact ⟨rfl, _, World.drewN_drewN _ _ _⟩ | exact ⟨rfl, _, Eq.trans (World.drewN_drewN _ _ _) (congrArg (World.drewN _) (Nat.add_assoc _ _ _))⟩))))
  refine Met.intro (hJ_ _ _ ?mg_ ?rel)
  case mg_ => kernel_rfl
  case rel => exact ⟨_, (true), (by first | rfl | ((conv => lhs; whnf); first | rfl | (simp; done) | (simp [*]; done))), H', ⟨by have := HJ7.out; first | omega | exact Nat.le_refl _⟩, ⟨by (with_reducible repeat (first | apply Kd.R_alloc | apply Kd.R_drewN | apply Kd.R_drew)); exact Kd.R_mono HO204.out (fun _ hk => trivial)⟩, ⟨by (with_reducible repeat (first | apply Kd.R_alloc | apply Kd.R_drewN | apply Kd.R_drew)); exact Kd.R_mono HO221.out (fun _ hk => trivial)⟩, ⟨by repeat (first | (with_reducible first | exact HB.out | apply below_alloc | apply pw_below_drewN | apply below_drew1) | exact HB.out)⟩⟩
 ·
  repeat revert ‹_›
  intro HP0_
  exact HP0_.out

theorem laws_FnRingsMoveOfAll.c5 : laws_FnRingsMoveOfAll.c4.1 := by
 intro k a0 a1 A2 c2 l2 a3 a4 a5 a6 r w HR2 HC2 _ _ f_ wc kj7 HJ7 t201 t202 A13 t205 t209 t210 A15 t211 t213 t214 A17 t215 t217 t218 t219 A19 t222 t223 w22 v203 w23 v207 w24 _ w25 nd w26 v220 w27 v225 HO204 HO208 HO221 HO226 HB _ _ _ _ J_ K_ hK_ A14 c28b0 c28b1 c28b2 A29 A16 c31b0 c31b1 c31b2 c34b0 c34b1 A18 c35b0 c35b1 c35b2 c38b0 c38b1 A20 hJ_ c39b0 c39b1 c39b2 A42 c44b0 c44b1 t229 A45 c46b0 c46b1 c46b2 A52 t231 H A53 c54b0 c54b1 c54b2 c61
 rw [if_neg c61] at H
 have c61b0 : (t210 != t202) = false := by simpa using c61
 (try (have c61b1 : decide (t210 = t202) = true := by simpa using c61))
 (try (have c61b2 : (t210 == t202) = true := by simpa using c61))
 clear c61
 (try (have c61e : t202 = t210 := by first | simpa using c61b0 | (simpa using (bne_eq_false_iff_eq.mp c61b0).symm)); (subst c61e))
 by_cases c68 : (t214 != t202) = true
 ·rw [if_pos c68] at H
  have c68b0 : (t214 != t202) = true := c68
  (try (have c68b1 : decide (t214 = t202) = false := by simpa using c68))
  (try (have c68b2 : (t214 == t202) = false := by simpa using c68))
  (try (have c68b3 : ¬ (t214 = t202) := by simpa using c68))
  clear c68
  have H' := Aside0.mk H
  clear H
  obtain ⟨Ao69, co69, eo69⟩ := Kd.R_slice HO204.out
  subst eo69
  obtain ⟨Ao70, co70, eo70⟩ := Kd.R_slice HO208.out
  subst eo70
  go_wp2_with (first | (go_at_call 12; (with_reducible refine (laws_ySame.calls kj7 _ _ t201 _ _ t205 true _ ?side1 ?side2 ?side3 ?side4 A29.out).mono ?_); (case side1 => repeat (first | exact (Kd.R_reads' HO204.out).2.2 | (with_reducible refine Kd.C_alloc ?_ _) | (with_reducible refine Kd.C_drewN ?_ _) | (with_reducible refine Kd.C_drew ?_))); (case side2 => exact (Kd.R_reads' HO204.out).2.1); (case side3 => repeat (first | exact (Kd.R_reads' HO208.out).2.2 | (with_reducible refine Kd.C_alloc ?_ _) | (with_reducible refine Kd.C_drewN ?_ _) | (with_reducible refine Kd.C_drew ?_))); (case side4 => exact (Kd.R_reads' HO208.out).2.1); rintro e w' ⟨rfl, ⟨nd, rfl⟩⟩; (try first | exact ⟨rfl, _, World.drewN_drewN _ _ _⟩ | exact ⟨rfl, _, Eq.trans (World.drewN_drewN _ _ _) (congrArg (World.drewN _) (Nat.add_assoc _ _ _))⟩); obtain ⟨Ao71, co71, eo71⟩ := Kd.R_slice HO221.out; subst eo71; obtain ⟨Ao72, co72, eo72⟩ := Kd.R_slice HO226.out; subst eo72) | (go_at_call 13; (with_reducible refine (laws_yTexts.calls kj7 _ _ t217 _ _ t222 true _ ?side1 ?side2 ?side3 ?side4 A42.out).mono ?_); (case side1 => repeat (first | exact (Kd.R_reads' HO221.out).2.2 | (with_reducible refine Kd.C_alloc ?_ _) | (with_reducible refine Kd.C_drewN ?_ _) | (with_reducible refine Kd.C_drew ?_))); (case side2 => exact (Kd.R_reads' HO221.out).2.1); (case side3 => repeat (first | exact (Kd.R_reads' HO226.out).2.2 | (with_reducible refine Kd.C_alloc ?_ _) | (with_reducible refine Kd.C_drewN ?_ _) | (with_reducible refine Kd.C_drew ?_))); (case side4 => exact (Kd.R_reads' HO226.out).2.1); rintro e w' ⟨rfl, ⟨nd, rfl⟩⟩; (try first | exact ⟨rfl, _, World.drewN_drewN _ _ _⟩ | exact ⟨rfl, _, Eq.trans (World.drewN_drewN _ _ _) (congrArg (World.drewN _) (Nat.add_assoc _ _ _))⟩)) | (go_at_call 14; (with_reducible refine (impl_IsState.calls a0 t229 _ A45.out).mono ?_); rintro e w73 ⟨rfl, hb⟩; have n0_ := Aside0.mk (Kd.R_below (by (with_reducible repeat (first | apply Kd.R_alloc | apply Kd.R_drewN | apply Kd.R_drew)); exact HO204.out) hb); have n1_ := Aside0.mk (Kd.R_below (by (with_reducible repeat (first | apply Kd.R_alloc | apply Kd.R_drewN | apply Kd.R_drew)); exact HO208.out) hb); have n2_ := Aside0.mk (Kd.R_below (by (with_reducible repeat (first | apply Kd.R_alloc | apply Kd.R_drewN | apply Kd.R_drew)); exact HO221.out) hb); have n3_ := Aside0.mk (Kd.R_below (by (with_reducible repeat (first | apply Kd.R_alloc | apply Kd.R_drewN | apply Kd.R_drew)); exact HO226.out) hb); have n4_ := Aside0.mk (below_step (by repeat (first | (with_reducible first | exact HB.out | apply below_alloc | apply pw_below_drewN | apply below_drew1) | exact HB.out)) hb); clear HO204; clear HO208; clear HO221; clear HO226; clear HB; have HO204 := n0_; have HO208 := n1_; have HO221 := n2_; have HO226 := n3_; have HB := n4_; clear n0_ n1_ n2_ n3_ n4_; (try clear hb); (try clear hb2); (try clear hk); (try clear hi)) | (go_at_call 14; (with_reducible refine (impl_IsState.calls a0 t229 _ A52.out).mono ?_); rintro e w74 ⟨rfl, hb⟩; have n0_ := Aside0.mk (Kd.R_below (by (with_reducible repeat (first | apply Kd.R_alloc | apply Kd.R_drewN | apply Kd.R_drew)); exact HO204.out) hb); have n1_ := Aside0.mk (Kd.R_below (by (with_reducible repeat (first | apply Kd.R_alloc | apply Kd.R_drewN | apply Kd.R_drew)); exact HO208.out) hb); have n2_ := Aside0.mk (Kd.R_below (by (with_reducible repeat (first | apply Kd.R_alloc | apply Kd.R_drewN | apply Kd.R_drew)); exact HO221.out) hb); have n3_ := Aside0.mk (Kd.R_below (by (with_reducible repeat (first | apply Kd.R_alloc | apply Kd.R_drewN | apply Kd.R_drew)); exact HO226.out) hb); have n4_ := Aside0.mk (below_step (by repeat (first | (with_reducible first | exact HB.out | apply below_alloc | apply pw_below_drewN | apply below_drew1) | exact HB.out)) hb); clear HO204; clear HO208; clear HO221; clear HO226; clear HB; have HO204 := n0_; have HO208 := n1_; have HO221 := n2_; have HO226 := n3_; have HB := n4_; clear n0_ n1_ n2_ n3_ n4_; (try clear hb); (try clear hb2); (try clear hk); (try clear hi)) | (go_at_call 15; (with_reducible refine (spec_IsState.calls kj7 a0 t231 _ A53.out).mono ?_); rintro e w' ⟨rfl, ⟨nd, rfl⟩⟩; (try first | exact ⟨rfl, _, World.drewN_drewN _ _ _⟩ | exact ⟨rfl, _, Eq.trans (World.drewN_drewN _ _ _) (congrArg (World.drewN _) (Nat.add_assoc _ _ _))⟩)))
  repeat (go_quiet (first | (go_at_call 12; (with_reducible refine (laws_ySame.calls kj7 _ _ t201 _ _ t205 true _ ?side1 ?side2 ?side3 ?side4 A29.out).mono ?_); (case side1 => repeat (first | exact (Kd.R_reads' HO204.out).2.2 | (with_reducible refine Kd.C_alloc ?_ _) | (with_reducible refine Kd.C_drewN ?_ _) | (with_reducible refine Kd.C_drew ?_))); (case side2 => exact (Kd.R_reads' HO204.out).2.1); (case side3 => repeat (first | exact (Kd.R_reads' HO208.out).2.2 | (with_reducible refine Kd.C_alloc ?_ _) | (with_reducible refine Kd.C_drewN ?_ _) | (with_reducible refine Kd.C_drew ?_))); (case side4 => exact (Kd.R_reads' HO208.out).2.1); rintro e w' ⟨rfl, ⟨nd, rfl⟩⟩; (try first | exact ⟨rfl, _, World.drewN_drewN _ _ _⟩ | exact ⟨rfl, _, Eq.trans (World.drewN_drewN _ _ _) (congrArg (World.drewN _) (Nat.add_assoc _ _ _))⟩); obtain ⟨Ao71, co71, eo71⟩ := Kd.R_slice HO221.out; subst eo71; obtain ⟨Ao72, co72, eo72⟩ := Kd.R_slice HO226.out; subst eo72) | (go_at_call 13; (with_reducible refine (laws_yTexts.calls kj7 _ _ t217 _ _ t222 true _ ?side1 ?side2 ?side3 ?side4 A42.out).mono ?_); (case side1 => repeat (first | exact (Kd.R_reads' HO221.out).2.2 | (with_reducible refine Kd.C_alloc ?_ _) | (with_reducible refine Kd.C_drewN ?_ _) | (with_reducible refine Kd.C_drew ?_))); (case side2 => exact (Kd.R_reads' HO221.out).2.1); (case side3 => repeat (first | exact (Kd.R_reads' HO226.out).2.2 | (with_reducible refine Kd.C_alloc ?_ _) | (with_reducible refine Kd.C_drewN ?_ _) | (with_reducible refine Kd.C_drew ?_))); (case side4 => exact (Kd.R_reads' HO226.out).2.1); rintro e w' ⟨rfl, ⟨nd, rfl⟩⟩; (try first | exact ⟨rfl, _, World.drewN_drewN _ _ _⟩ | exact ⟨rfl, _, Eq.trans (World.drewN_drewN _ _ _) (congrArg (World.drewN _) (Nat.add_assoc _ _ _))⟩)) | (go_at_call 14; (with_reducible refine (impl_IsState.calls a0 t229 _ A45.out).mono ?_); rintro e w73 ⟨rfl, hb⟩; have n0_ := Aside0.mk (Kd.R_below (by (with_reducible repeat (first | apply Kd.R_alloc | apply Kd.R_drewN | apply Kd.R_drew)); exact HO204.out) hb); have n1_ := Aside0.mk (Kd.R_below (by (with_reducible repeat (first | apply Kd.R_alloc | apply Kd.R_drewN | apply Kd.R_drew)); exact HO208.out) hb); have n2_ := Aside0.mk (Kd.R_below (by (with_reducible repeat (first | apply Kd.R_alloc | apply Kd.R_drewN | apply Kd.R_drew)); exact HO221.out) hb); have n3_ := Aside0.mk (Kd.R_below (by (with_reducible repeat (first | apply Kd.R_alloc | apply Kd.R_drewN | apply Kd.R_drew)); exact HO226.out) hb); have n4_ := Aside0.mk (below_step (by repeat (first | (with_reducible first | exact HB.out | apply below_alloc | apply pw_below_drewN | apply below_drew1) | exact HB.out)) hb); clear HO204; clear HO208; clear HO221; clear HO226; clear HB; have HO204 := n0_; have HO208 := n1_; have HO221 := n2_; have HO226 := n3_; have HB := n4_; clear n0_ n1_ n2_ n3_ n4_; (try clear hb); (try clear hb2); (try clear hk); (try clear hi)) | (go_at_call 14; (with_reducible refine (impl_IsState.calls a0 t229 _ A52.out).mono ?_); rintro e w74 ⟨rfl, hb⟩; have n0_ := Aside0.mk (Kd.R_below (by (with_reducible repeat (first | apply Kd.R_alloc | apply Kd.R_drewN | apply Kd.R_drew)); exact HO204.out) hb); have n1_ := Aside0.mk (Kd.R_below (by (with_reducible repeat (first | apply Kd.R_alloc | apply Kd.R_drewN | apply Kd.R_drew)); exact HO208.out) hb); have n2_ := Aside0.mk (Kd.R_below (by (with_reducible repeat (first | apply Kd.R_alloc | apply Kd.R_drewN | apply Kd.R_drew)); exact HO221.out) hb); have n3_ := Aside0.mk (Kd.R_below (by (with_reducible repeat (first | apply Kd.R_alloc | apply Kd.R_drewN | apply Kd.R_drew)); exact HO226.out) hb); have n4_ := Aside0.mk (below_step (by repeat (first | (with_reducible first | exact HB.out | apply below_alloc | apply pw_below_drewN | apply below_drew1) | exact HB.out)) hb); clear HO204; clear HO208; clear HO221; clear HO226; clear HB; have HO204 := n0_; have HO208 := n1_; have HO221 := n2_; have HO226 := n3_; have HB := n4_; clear n0_ n1_ n2_ n3_ n4_; (try clear hb); (try clear hb2); (try clear hk); (try clear hi)) | (go_at_call 15; (with_reducible refine (spec_IsState.calls kj7 a0 t231 _ A53.out).mono ?_); rintro e w' ⟨rfl, ⟨nd, rfl⟩⟩; (try first | exact ⟨rfl, _, World.drewN_drewN _ _ _⟩ | exact ⟨rfl, _, Eq.trans (World.drewN_drewN _ _ _) (congrArg (World.drewN _) (Nat.add_assoc _ _ _))⟩))); try go_wp2_with (first | (go_at_call 12; (with_reducible refine (laws_ySame.calls kj7 _ _ t201 _ _ t205 true _ ?side1 ?side2 ?side3 ?side4 A29.out).mono ?_); (case side1 => repeat (first | exact (Kd.R_reads' HO204.out).2.2 | (with_reducible refine Kd.C_alloc ?_ _) | (with_reducible refine Kd.C_drewN ?_ _) | (with_reducible refine Kd.C_drew ?_))); (case side2 => exact (Kd.R_reads' HO204.out).2.1); (case side3 => repeat (first | exact (Kd.R_reads' HO208.out).2.2 | (with_reducible refine Kd.C_alloc ?_ _) | (with_reducible refine Kd.C_drewN ?_ _) | (with_reducible refine Kd.C_drew ?_))); (case side4 => exact (Kd.R_reads' HO208.out).2.1); rintro e w' ⟨rfl, ⟨nd, rfl⟩⟩; (try first | exact ⟨rfl, _, World.drewN_drewN _ _ _⟩ | exact ⟨rfl, _, Eq.trans (World.drewN_drewN _ _ _) (congrArg (World.drewN _) (Nat.add_assoc _ _ _))⟩); obtain ⟨Ao71, co71, eo71⟩ := Kd.R_slice HO221.out; subst eo71; obtain ⟨Ao72, co72, eo72⟩ := Kd.R_slice HO226.out; subst eo72) | (go_at_call 13; (with_reducible refine (laws_yTexts.calls kj7 _ _ t217 _ _ t222 true _ ?side1 ?side2 ?side3 ?side4 A42.out).mono ?_); (case side1 => repeat (first | exact (Kd.R_reads' HO221.out).2.2 | (with_reducible refine Kd.C_alloc ?_ _) | (with_reducible refine Kd.C_drewN ?_ _) | (with_reducible refine Kd.C_drew ?_))); (case side2 => exact (Kd.R_reads' HO221.out).2.1); (case side3 => repeat (first | exact (Kd.R_reads' HO226.out).2.2 | (with_reducible refine Kd.C_alloc ?_ _) | (with_reducible refine Kd.C_drewN ?_ _) | (with_reducible refine Kd.C_drew ?_))); (case side4 => exact (Kd.R_reads' HO226.out).2.1); rintro e w' ⟨rfl, ⟨nd, rfl⟩⟩; (try first | exact ⟨rfl, _, World.drewN_drewN _ _ _⟩ | exact ⟨rfl, _, Eq.trans (World.drewN_drewN _ _ _) (congrArg (World.drewN _) (Nat.add_assoc _ _ _))⟩)) | (go_at_call 14; (with_reducible refine (impl_IsState.calls a0 t229 _ A45.out).mono ?_); rintro e w73 ⟨rfl, hb⟩; have n0_ := Aside0.mk (Kd.R_below (by (with_reducible repeat (first | apply Kd.R_alloc | apply Kd.R_drewN | apply Kd.R_drew)); exact HO204.out) hb); have n1_ := Aside0.mk (Kd.R_below (by (with_reducible repeat (first | apply Kd.R_alloc | apply Kd.R_drewN | apply Kd.R_drew)); exact HO208.out) hb); have n2_ := Aside0.mk (Kd.R_below (by (with_reducible repeat (first | apply Kd.R_alloc | apply Kd.R_drewN | apply Kd.R_drew)); exact HO221.out) hb); have n3_ := Aside0.mk (Kd.R_below (by (with_reducible repeat (first | apply Kd.R_alloc | apply Kd.R_drewN | apply Kd.R_drew)); exact HO226.out) hb); have n4_ := Aside0.mk (below_step (by repeat (first | (with_reducible first | exact HB.out | apply below_alloc | apply pw_below_drewN | apply below_drew1) | exact HB.out)) hb); clear HO204; clear HO208; clear HO221; clear HO226; clear HB; have HO204 := n0_; have HO208 := n1_; have HO221 := n2_; have HO226 := n3_; have HB := n4_; clear n0_ n1_ n2_ n3_ n4_; (try clear hb); (try clear hb2); (try clear hk); (try clear hi)) | (go_at_call 14; (with_reducible refine (impl_IsState.calls a0 t229 _ A52.out).mono ?_); rintro e w74 ⟨rfl, hb⟩; have n0_ := Aside0.mk (Kd.R_below (by (with_reducible repeat (first | apply Kd.R_alloc | apply Kd.R_drewN | apply Kd.R_drew)); exact HO204.out) hb); have n1_ := Aside0.mk (Kd.R_below (by (with_reducible repeat (first | apply Kd.R_alloc | apply Kd.R_drewN | apply Kd.R_drew)); exact HO208.out) hb); have n2_ := Aside0.mk (Kd.R_below (by (with_reducible repeat (first | apply Kd.R_alloc | apply Kd.R_drewN | apply Kd.R_drew)); exact HO221.out) hb); have n3_ := Aside0.mk (Kd.R_below (by (with_reducible repeat (first | apply Kd.R_alloc | apply Kd.R_drewN | apply Kd.R_drew)); exact HO226.out) hb); have n4_ := Aside0.mk (below_step (by repeat (first | (with_reducible first | exact HB.out | apply below_alloc | apply pw_below_drewN | apply below_drew1) | exact HB.out)) hb); clear HO204; clear HO208; clear HO221; clear HO226; clear HB; have HO204 := n0_; have HO208 := n1_; have HO221 := n2_; have HO226 := n3_; have HB := n4_; clear n0_ n1_ n2_ n3_ n4_; (try clear hb); (try clear hb2); (try clear hk); (try clear hi)) | (go_at_call 15; (with_reducible refine (spec_IsState.calls kj7 a0 t231 _ A53.out).mono ?_); rintro e w' ⟨rfl, ⟨nd, rfl⟩⟩; (try first | exact ⟨rfl, _, World.drewN_drewN _ _ _⟩ | exact ⟨rfl, _, Eq.trans (World.drewN_drewN _ _ _) (congrArg (World.drewN _) (Nat.add_assoc _ _ _))⟩))))
  refine Met.intro (hJ_ _ _ ?mg_ ?rel)
  case mg_ => kernel_rfl
  case rel => exact ⟨_, (true), (by first | rfl | ((conv => lhs; whnf); first | rfl | (simp; done) | (simp [*]; done))), H', ⟨by have := HJ7.out; first | omega | exact Nat.le_refl _⟩, ⟨by (with_reducible repeat (first | apply Kd.R_alloc | apply Kd.R_drewN | apply Kd.R_drew)); exact Kd.R_mono HO204.out (fun _ hk => trivial)⟩, ⟨by (with_reducible repeat (first | apply Kd.R_alloc | apply Kd.R_drewN | apply Kd.R_drew)); exact Kd.R_mono HO221.out (fun _ hk => trivial)⟩, ⟨by repeat (first | (with_reducible first | exact HB.out | apply below_alloc | apply pw_below_drewN | apply below_drew1) | exact HB.out)⟩⟩
 ·rw [if_neg c68] at H
  have c68b0 : (t214 != t202) = false := by simpa using c68
  (try (have c68b1 : decide (t214 = t202) = true := by simpa using c68))
  (try (have c68b2 : (t214 == t202) = true := by simpa using c68))
  clear c68
  (try (have c68e : t202 = t214 := by first | simpa using c68b0 | (simpa using (bne_eq_false_iff_eq.mp c68b0).symm)); (subst c68e))
  have H' := Aside0.mk H
  clear H
  obtain ⟨Ao75, co75, eo75⟩ := Kd.R_slice HO204.out
  subst eo75
  obtain ⟨Ao76, co76, eo76⟩ := Kd.R_slice HO208.out
  subst eo76
  go_wp2_with (first | (go_at_call 12; (with_reducible refine (laws_ySame.calls kj7 _ _ t201 _ _ t205 true _ ?side1 ?side2 ?side3 ?side4 A29.out).mono ?_); (case side1 => repeat (first | exact (Kd.R_reads' HO204.out).2.2 | (with_reducible refine Kd.C_alloc ?_ _) | (with_reducible refine Kd.C_drewN ?_ _) | (with_reducible refine Kd.C_drew ?_))); (case side2 => exact (Kd.R_reads' HO204.out).2.1); (case side3 => repeat (first | exact (Kd.R_reads' HO208.out).2.2 | (with_reducible refine Kd.C_alloc ?_ _) | (with_reducible refine Kd.C_drewN ?_ _) | (with_reducible refine Kd.C_drew ?_))); (case side4 => exact (Kd.R_reads' HO208.out).2.1); rintro e w' ⟨rfl, ⟨nd, rfl⟩⟩; (try first | exact ⟨rfl, _, World.drewN_drewN _ _ _⟩ | exact ⟨rfl, _, Eq.trans (World.drewN_drewN _ _ _) (congrArg (World.drewN _) (Nat.add_assoc _ _ _))⟩); obtain ⟨Ao77, co77, eo77⟩ := Kd.R_slice HO221.out; subst eo77; obtain ⟨Ao78, co78, eo78⟩ := Kd.R_slice HO226.out; subst eo78) | (go_at_call 13; (with_reducible refine (laws_yTexts.calls kj7 _ _ t217 _ _ t222 true _ ?side1 ?side2 ?side3 ?side4 A42.out).mono ?_); (case side1 => repeat (first | exact (Kd.R_reads' HO221.out).2.2 | (with_reducible refine Kd.C_alloc ?_ _) | (with_reducible refine Kd.C_drewN ?_ _) | (with_reducible refine Kd.C_drew ?_))); (case side2 => exact (Kd.R_reads' HO221.out).2.1); (case side3 => repeat (first | exact (Kd.R_reads' HO226.out).2.2 | (with_reducible refine Kd.C_alloc ?_ _) | (with_reducible refine Kd.C_drewN ?_ _) | (with_reducible refine Kd.C_drew ?_))); (case side4 => exact (Kd.R_reads' HO226.out).2.1); rintro e w' ⟨rfl, ⟨nd, rfl⟩⟩; (try first | exact ⟨rfl, _, World.drewN_drewN _ _ _⟩ | exact ⟨rfl, _, Eq.trans (World.drewN_drewN _ _ _) (congrArg (World.drewN _) (Nat.add_assoc _ _ _))⟩)) | (go_at_call 14; (with_reducible refine (impl_IsState.calls a0 t229 _ A45.out).mono ?_); rintro e w79 ⟨rfl, hb⟩; have n0_ := Aside0.mk (Kd.R_below (by (with_reducible repeat (first | apply Kd.R_alloc | apply Kd.R_drewN | apply Kd.R_drew)); exact HO204.out) hb); have n1_ := Aside0.mk (Kd.R_below (by (with_reducible repeat (first | apply Kd.R_alloc | apply Kd.R_drewN | apply Kd.R_drew)); exact HO208.out) hb); have n2_ := Aside0.mk (Kd.R_below (by (with_reducible repeat (first | apply Kd.R_alloc | apply Kd.R_drewN | apply Kd.R_drew)); exact HO221.out) hb); have n3_ := Aside0.mk (Kd.R_below (by (with_reducible repeat (first | apply Kd.R_alloc | apply Kd.R_drewN | apply Kd.R_drew)); exact HO226.out) hb); have n4_ := Aside0.mk (below_step (by repeat (first | (with_reducible first | exact HB.out | apply below_alloc | apply pw_below_drewN | apply below_drew1) | exact HB.out)) hb); clear HO204; clear HO208; clear HO221; clear HO226; clear HB; have HO204 := n0_; have HO208 := n1_; have HO221 := n2_; have HO226 := n3_; have HB := n4_; clear n0_ n1_ n2_ n3_ n4_; (try clear hb); (try clear hb2); (try clear hk); (try clear hi)) | (go_at_call 14; (with_reducible refine (impl_IsState.calls a0 t229 _ A52.out).mono ?_); rintro e w80 ⟨rfl, hb⟩; have n0_ := Aside0.mk (Kd.R_below (by (with_reducible repeat (first | apply Kd.R_alloc | apply Kd.R_drewN | apply Kd.R_drew)); exact HO204.out) hb); have n1_ := Aside0.mk (Kd.R_below (by (with_reducible repeat (first | apply Kd.R_alloc | apply Kd.R_drewN | apply Kd.R_drew)); exact HO208.out) hb); have n2_ := Aside0.mk (Kd.R_below (by (with_reducible repeat (first | apply Kd.R_alloc | apply Kd.R_drewN | apply Kd.R_drew)); exact HO221.out) hb); have n3_ := Aside0.mk (Kd.R_below (by (with_reducible repeat (first | apply Kd.R_alloc | apply Kd.R_drewN | apply Kd.R_drew)); exact HO226.out) hb); have n4_ := Aside0.mk (below_step (by repeat (first | (with_reducible first | exact HB.out | apply below_alloc | apply pw_below_drewN | apply below_drew1) | exact HB.out)) hb); clear HO204; clear HO208; clear HO221; clear HO226; clear HB; have HO204 := n0_; have HO208 := n1_; have HO221 := n2_; have HO226 := n3_; have HB := n4_; clear n0_ n1_ n2_ n3_ n4_; (try clear hb); (try clear hb2); (try clear hk); (try clear hi)) | (go_at_call 15; (with_reducible refine (spec_IsState.calls kj7 a0 t231 _ A53.out).mono ?_); rintro e w' ⟨rfl, ⟨nd, rfl⟩⟩; (try first | exact ⟨rfl, _, World.drewN_drewN _ _ _⟩ | exact ⟨rfl, _, Eq.trans (World.drewN_drewN _ _ _) (congrArg (World.drewN _) (Nat.add_assoc _ _ _))⟩)))
  repeat (go_quiet (first | (go_at_call 12; (with_reducible refine (laws_ySame.calls kj7 _ _ t201 _ _ t205 true _ ?side1 ?side2 ?side3 ?side4 A29.out).mono ?_); (case side1 => repeat (first | exact (Kd.R_reads' HO204.out).2.2 | (with_reducible refine Kd.C_alloc ?_ _) | (with_reducible refine Kd.C_drewN ?_ _) | (with_reducible refine Kd.C_drew ?_))); (case side2 => exact (Kd.R_reads' HO204.out).2.1); (case side3 => repeat (first | exact (Kd.R_reads' HO208.out).2.2 | (with_reducible refine Kd.C_alloc ?_ _) | (with_reducible refine Kd.C_drewN ?_ _) | (with_reducible refine Kd.C_drew ?_))); (case side4 => exact (Kd.R_reads' HO208.out).2.1); rintro e w' ⟨rfl, ⟨nd, rfl⟩⟩; (try first | exact ⟨rfl, _, World.drewN_drewN _ _ _⟩ | exact ⟨rfl, _, Eq.trans (World.drewN_drewN _ _ _) (congrArg (World.drewN _) (Nat.add_assoc _ _ _))⟩); obtain ⟨Ao77, co77, eo77⟩ := Kd.R_slice HO221.out; subst eo77; obtain ⟨Ao78, co78, eo78⟩ := Kd.R_slice HO226.out; subst eo78) | (go_at_call 13; (with_reducible refine (laws_yTexts.calls kj7 _ _ t217 _ _ t222 true _ ?side1 ?side2 ?side3 ?side4 A42.out).mono ?_); (case side1 => repeat (first | exact (Kd.R_reads' HO221.out).2.2 | (with_reducible refine Kd.C_alloc ?_ _) | (with_reducible refine Kd.C_drewN ?_ _) | (with_reducible refine Kd.C_drew ?_))); (case side2 => exact (Kd.R_reads' HO221.out).2.1); (case side3 => repeat (first | exact (Kd.R_reads' HO226.out).2.2 | (with_reducible refine Kd.C_alloc ?_ _) | (with_reducible refine Kd.C_drewN ?_ _) | (with_reducible refine Kd.C_drew ?_))); (case side4 => exact (Kd.R_reads' HO226.out).2.1); rintro e w' ⟨rfl, ⟨nd, rfl⟩⟩; (try first | exact ⟨rfl, _, World.drewN_drewN _ _ _⟩ | exact ⟨rfl, _, Eq.trans (World.drewN_drewN _ _ _) (congrArg (World.drewN _) (Nat.add_assoc _ _ _))⟩)) | (go_at_call 14; (with_reducible refine (impl_IsState.calls a0 t229 _ A45.out).mono ?_); rintro e w79 ⟨rfl, hb⟩; have n0_ := Aside0.mk (Kd.R_below (by (with_reducible repeat (first | apply Kd.R_alloc | apply Kd.R_drewN | apply Kd.R_drew)); exact HO204.out) hb); have n1_ := Aside0.mk (Kd.R_below (by (with_reducible repeat (first | apply Kd.R_alloc | apply Kd.R_drewN | apply Kd.R_drew)); exact HO208.out) hb); have n2_ := Aside0.mk (Kd.R_below (by (with_reducible repeat (first | apply Kd.R_alloc | apply Kd.R_drewN | apply Kd.R_drew)); exact HO221.out) hb); have n3_ := Aside0.mk (Kd.R_below (by (with_reducible repeat (first | apply Kd.R_alloc | apply Kd.R_drewN | apply Kd.R_drew)); exact HO226.out) hb); have n4_ := Aside0.mk (below_step (by repeat (first | (with_reducible first | exact HB.out | apply below_alloc | apply pw_below_drewN | apply below_drew1) | exact HB.out)) hb); clear HO204; clear HO208; clear HO221; clear HO226; clear HB; have HO204 := n0_; have HO208 := n1_; have HO221 := n2_; have HO226 := n3_; have HB := n4_; clear n0_ n1_ n2_ n3_ n4_; (try clear hb); (try clear hb2); (try clear hk); (try clear hi)) | (go_at_call 14; (with_reducible refine (impl_IsState.calls a0 t229 _ A52.out).mono ?_); rintro e w80 ⟨rfl, hb⟩; have n0_ := Aside0.mk (Kd.R_below (by (with_reducible repeat (first | apply Kd.R_alloc | apply Kd.R_drewN | apply Kd.R_drew)); exact HO204.out) hb); have n1_ := Aside0.mk (Kd.R_below (by (with_reducible repeat (first | apply Kd.R_alloc | apply Kd.R_drewN | apply Kd.R_drew)); exact HO208.out) hb); have n2_ := Aside0.mk (Kd.R_below (by (with_reducible repeat (first | apply Kd.R_alloc | apply Kd.R_drewN | apply Kd.R_drew)); exact HO221.out) hb); have n3_ := Aside0.mk (Kd.R_below (by (with_reducible repeat (first | apply Kd.R_alloc | apply Kd.R_drewN | apply Kd.R_drew)); exact HO226.out) hb); have n4_ := Aside0.mk (below_step (by repeat (first | (with_reducible first | exact HB.out | apply below_alloc | apply pw_below_drewN | apply below_drew1) | exact HB.out)) hb); clear HO204; clear HO208; clear HO221; clear HO226; clear HB; have HO204 := n0_; have HO208 := n1_; have HO221 := n2_; have HO226 := n3_; have HB := n4_; clear n0_ n1_ n2_ n3_ n4_; (try clear hb); (try clear hb2); (try clear hk); (try clear hi)) | (go_at_call 15; (with_reducible refine (spec_IsState.calls kj7 a0 t231 _ A53.out).mono ?_); rintro e w' ⟨rfl, ⟨nd, rfl⟩⟩; (try first | exact ⟨rfl, _, World.drewN_drewN _ _ _⟩ | exact ⟨rfl, _, Eq.trans (World.drewN_drewN _ _ _) (congrArg (World.drewN _) (Nat.add_assoc _ _ _))⟩))); try go_wp2_with (first | (go_at_call 12; (with_reducible refine (laws_ySame.calls kj7 _ _ t201 _ _ t205 true _ ?side1 ?side2 ?side3 ?side4 A29.out).mono ?_); (case side1 => repeat (first | exact (Kd.R_reads' HO204.out).2.2 | (with_reducible refine Kd.C_alloc ?_ _) | (with_reducible refine Kd.C_drewN ?_ _) | (with_reducible refine Kd.C_drew ?_))); (case side2 => exact (Kd.R_reads' HO204.out).2.1); (case side3 => repeat (first | exact (Kd.R_reads' HO208.out).2.2 | (with_reducible refine Kd.C_alloc ?_ _) | (with_reducible refine Kd.C_drewN ?_ _) | (with_reducible refine Kd.C_drew ?_))); (case side4 => exact (Kd.R_reads' HO208.out).2.1); rintro e w' ⟨rfl, ⟨nd, rfl⟩⟩; (try first | exact ⟨rfl, _, World.drewN_drewN _ _ _⟩ | exact ⟨rfl, _, Eq.trans (World.drewN_drewN _ _ _) (congrArg (World.drewN _) (Nat.add_assoc _ _ _))⟩); obtain ⟨Ao77, co77, eo77⟩ := Kd.R_slice HO221.out; subst eo77; obtain ⟨Ao78, co78, eo78⟩ := Kd.R_slice HO226.out; subst eo78) | (go_at_call 13; (with_reducible refine (laws_yTexts.calls kj7 _ _ t217 _ _ t222 true _ ?side1 ?side2 ?side3 ?side4 A42.out).mono ?_); (case side1 => repeat (first | exact (Kd.R_reads' HO221.out).2.2 | (with_reducible refine Kd.C_alloc ?_ _) | (with_reducible refine Kd.C_drewN ?_ _) | (with_reducible refine Kd.C_drew ?_))); (case side2 => exact (Kd.R_reads' HO221.out).2.1); (case side3 => repeat (first | exact (Kd.R_reads' HO226.out).2.2 | (with_reducible refine Kd.C_alloc ?_ _) | (with_reducible refine Kd.C_drewN ?_ _) | (with_reducible refine Kd.C_drew ?_))); (case side4 => exact (Kd.R_reads' HO226.out).2.1); rintro e w' ⟨rfl, ⟨nd, rfl⟩⟩; (try first | exact ⟨rfl, _, World.drewN_drewN _ _ _⟩ | exact ⟨rfl, _, Eq.trans (World.drewN_drewN _ _ _) (congrArg (World.drewN _) (Nat.add_assoc _ _ _))⟩)) | (go_at_call 14; (with_reducible refine (impl_IsState.calls a0 t229 _ A45.out).mono ?_); rintro e w79 ⟨rfl, hb⟩; have n0_ := Aside0.mk (Kd.R_below (by (with_reducible repeat (first | apply Kd.R_alloc | apply Kd.R_drewN | apply Kd.R_drew)); exact HO204.out) hb); have n1_ := Aside0.mk (Kd.R_below (by (with_reducible repeat (first | apply Kd.R_alloc | apply Kd.R_drewN | apply Kd.R_drew)); exact HO208.out) hb); have n2_ := Aside0.mk (Kd.R_below (by (with_reducible repeat (first | apply Kd.R_alloc | apply Kd.R_drewN | apply Kd.R_drew)); exact HO221.out) hb); have n3_ := Aside0.mk (Kd.R_below (by (with_reducible repeat (first | apply Kd.R_alloc | apply Kd.R_drewN | apply Kd.R_drew)); exact HO226.out) hb); have n4_ := Aside0.mk (below_step (by repeat (first | (with_reducible first | exact HB.out | apply below_alloc | apply pw_below_drewN | apply below_drew1) | exact HB.out)) hb); clear HO204; clear HO208; clear HO221; clear HO226; clear HB; have HO204 := n0_; have HO208 := n1_; have HO221 := n2_; have HO226 := n3_; have HB := n4_; clear n0_ n1_ n2_ n3_ n4_; (try clear hb); (try clear hb2); (try clear hk); (try clear hi)) | (go_at_call 14; (with_reducible refine (impl_IsState.calls a0 t229 _ A52.out).mono ?_); rintro e w80 ⟨rfl, hb⟩; have n0_ := Aside0.mk (Kd.R_below (by (with_reducible repeat (first | apply Kd.R_alloc | apply Kd.R_drewN | apply Kd.R_drew)); exact HO204.out) hb); have n1_ := Aside0.mk (Kd.R_below (by (with_reducible repeat (first | apply Kd.R_alloc | apply Kd.R_drewN | apply Kd.R_drew)); exact HO208.out) hb); have n2_ := Aside0.mk (Kd.R_below (by (with_reducible repeat (first | apply Kd.R_alloc | apply Kd.R_drewN | apply Kd.R_drew)); exact HO221.out) hb); have n3_ := Aside0.mk (Kd.R_below (by (with_reducible repeat (first | apply Kd.R_alloc | apply Kd.R_drewN | apply Kd.R_drew)); exact HO226.out) hb); have n4_ := Aside0.mk (below_step (by repeat (first | (with_reducible first | exact HB.out | apply below_alloc | apply pw_below_drewN | apply below_drew1) | exact HB.out)) hb); clear HO204; clear HO208; clear HO221; clear HO226; clear HB; have HO204 := n0_; have HO208 := n1_; have HO221 := n2_; have HO226 := n3_; have HB := n4_; clear n0_ n1_ n2_ n3_ n4_; (try clear hb); (try clear hb2); (try clear hk); (try clear hi)) | (go_at_call 15; (with_reducible refine (spec_IsState.calls kj7 a0 t231 _ A53.out).mono ?_); rintro e w' ⟨rfl, ⟨nd, rfl⟩⟩; (try first | exact ⟨rfl, _, World.drewN_drewN _ _ _⟩ | exact ⟨rfl, _, Eq.trans (World.drewN_drewN _ _ _) (congrArg (World.drewN _) (Nat.add_assoc _ _ _))⟩))))
  refine Met.intro (hJ_ _ _ ?mg_ ?rel)
  case mg_ => kernel_rfl
  case rel => exact ⟨_, ((t219 != t202)), (by first | rfl | ((conv => lhs; whnf); first | rfl | (simp; done) | (simp [*]; done))), H', ⟨by have := HJ7.out; first | omega | exact Nat.le_refl _⟩, ⟨by (with_reducible repeat (first | apply Kd.R_alloc | apply Kd.R_drewN | apply Kd.R_drew)); exact Kd.R_mono HO204.out (fun _ hk => trivial)⟩, ⟨by (with_reducible repeat (first | apply Kd.R_alloc | apply Kd.R_drewN | apply Kd.R_drew)); exact Kd.R_mono HO221.out (fun _ hk => trivial)⟩, ⟨by repeat (first | (with_reducible first | exact HB.out | apply below_alloc | apply pw_below_drewN | apply below_drew1) | exact HB.out)⟩⟩

def laws_FnRingsMoveOfAll.c6 : PSigma fun P0_ : Prop => PSigma fun P1_ : Prop => Hole P0_ → Hole P1_ → laws_FnRingsMoveOfAll.c1.2.1 := by
 refine' ⟨_, _, fun HP0_ HP1_ => _⟩
 rotate_left 2
 intro k a0 a1 A2 c2 l2 a3 a4 a5 a6 r w HR2 HC2 _ _ _ _ kj7 HJ7 t201 t202 A13 t205 t206 A14 t209 t210 A15 t211 t212 A16 t213 t214 A17 t215 t216 A18 t217 t218 t219 A19 t222 t223 t224 A20 HC21 w22 v203 w23 v207 w24 _ w25 nd w26 v220 w27 v225 HO204 HO208 HO221 HO226 HB _ _ _ _ f_ wc u207 hcut
 clear HC21
 try clear c1
 try clear c2
 try clear p2
 try clear c3
 try clear c4
 try clear c5
 try clear c6
 try clear c9
 try clear c9b0
 try clear c9b1
 try clear c10
 try clear c10b0
 try clear c10b1
 try clear c11
 try clear c11b0
 try clear c11b1
 try clear c12
 try clear c28
 try clear c28b0
 try clear c28b1
 try clear c28b2
 try clear c30
 try clear c31
 try clear c31b0
 try clear c31b1
 try clear c31b2
 try clear c34
 try clear c34b0
 try clear c34b1
 try clear c35
 try clear c35b0
 try clear c35b1
 try clear c35b2
 try clear c38
 try clear c38b0
 try clear c38b1
 try clear c39
 try clear c39b0
 try clear c39b1
 try clear c39b2
 try clear c43
 try clear c44
 try clear c44b0
 try clear c44b1
 try clear c46
 try clear c46b0
 try clear c46b1
 try clear c46b2
 try clear c54
 try clear c54b0
 try clear c54b1
 try clear c54b2
 try clear c61
 try clear c61b0
 try clear c61b1
 try clear c61b2
 try clear c68
 try clear c68b0
 try clear c68b1
 try clear c68b2
 try clear p2
 obtain ⟨kq, x207_20, rfl, HA, HJ20, HO_15, HO_27, HB⟩ := hcut
 cases kq with
 | zero => exact absurd HA.out (by simp [laws_FnRingsMoveOfAll.j1])
 | succ kj20 =>
  have H := HA.out
  clear HA
  simp only [laws_FnRingsMoveOfAll.j1] at H
  by_cases c95 : x207_20 = true
  ·subst c95
   rw [if_pos rfl] at H
   have H1 := H
   clear H
   have H := H1
   clear H1
   obtain rfl := Option.some.inj H
   go_wp2
   repeat (go_quiet (fail); try go_wp2)
   go_ret
   exact ⟨by first | rfl | (simp [errW_none, errW_some] <;> rfl) | (simp [*, errW_none, errW_some] <;> rfl), by repeat (first | (with_reducible first | exact HB.out | apply below_alloc | apply pw_below_drewN | apply below_drew1) | exact HB.out)⟩
  ·replace c95 := Bool.eq_false_iff.mpr c95
   subst c95
   rw [if_neg (show ¬ (false = true) by decide)] at H
   have H1 := H
   clear H
   have H := H1
   clear H1
   have HC96 := Aside0.mk H
   clear H
   go_upto_if 208 with (fail)
   repeat (go_quiet (fail); go_upto_if 208 with (fail))
   refine wp_cutF [o_,o_,o_,o_,o_,o_,o_,o_,o_,o_,o_,o_,o_,o_,i_,o_,o_,o_,o_,o_,o_,o_,o_,o_,o_,o_,o_,o_,o_,o_,o_,o_,o_,i_,i_,o_,i_,i_,i_,i_,i_,i_,i_,i_,o_,i_,i_,i_,o_,o_,o_,o_,o_,o_,o_,o_,o_,o_,o_,o_,o_,o_,o_,o_,o_,o_,o_,o_,o_,o_,o_,o_,o_,o_,o_,i_,i_,i_,i_,i_,i_,i_,i_,i_,i_,i_,i_,i_,i_,i_,i_,i_,i_,i_,i_,i_,i_,i_,i_,i_,i_,i_,i_,i_,i_,i_,i_,i_,i_,i_,i_,i_,i_,i_,i_,i_,i_,i_,i_,i_,i_,i_,i_,i_,i_,i_,i_,i_,i_,i_,i_,i_,i_,i_,i_,i_,i_,i_,i_,i_,i_,i_,i_,i_,i_,i_,i_,i_,i_,i_,i_,i_,i_,i_,i_,i_,i_,i_,i_,i_,i_,i_,i_,i_,i_,i_,i_,i_,i_,i_,i_,i_,i_,i_,i_,i_,i_,i_,i_,i_,i_,i_,i_,i_,i_,i_,i_,i_,i_,i_,i_,i_,i_,i_,i_,i_,i_,i_,i_,i_,i_,i_,i_,i_,i_,i_,i_,i_,i_,i_,i_,i_,i_,i_,i_,i_,i_,i_,i_,i_,i_,i_,i_,i_,i_,i_,i_,i_,i_,i_,i_,i_,i_,i_,i_,i_,i_,i_,i_,i_,i_,i_,i_,i_,i_,i_,i_,i_,i_,i_,i_,i_,i_,i_,i_,i_,i_,i_,i_,i_,i_,i_,i_,i_,i_,i_,i_,i_,i_,i_,i_,i_,i_,i_,i_,i_,i_,i_,i_,i_,i_,i_,i_,i_,i_,i_,i_,i_,i_,i_,i_,i_,i_,i_,i_,i_,i_,i_,i_,i_,i_,i_,i_,i_,i_,i_,i_,i_,i_,i_,i_,i_,i_,i_,i_,i_,i_,i_,i_,i_,i_,i_,i_,i_,i_,i_,i_,i_,i_,i_,i_,i_,i_,i_,i_,i_,i_,i_,i_,i_,i_,i_,i_,i_,i_,i_,i_,i_,i_,i_,i_,i_,i_,i_,i_,i_,i_,i_,i_,i_,i_,i_,i_,i_,i_,i_,i_,i_,i_,i_,i_,i_,i_,i_,i_,i_,i_,i_,i_,i_,i_,i_,i_,i_,i_,i_,i_,i_,i_,i_,i_,i_,i_,i_,i_,i_,i_,i_,i_,i_,i_,i_,i_,i_,i_,i_,i_,i_,i_,i_,i_,i_,i_,i_,i_,i_,i_,i_,i_,i_,i_,i_,i_,i_,i_,i_,i_,i_,i_,i_,i_,i_,i_,i_,i_,i_,i_,i_,i_,i_,i_,i_,i_,i_,i_,i_,i_,i_,i_,i_,i_,i_,o_,o_,o_,i_,i_,i_,i_,i_,i_,i_,i_,i_,i_,i_,i_,i_,i_,i_,i_,i_,i_,i_,i_,i_,i_,i_,i_,i_,i_,i_,i_,i_,i_,i_,i_,i_,i_,i_,i_,i_,i_,i_,i_,i_,i_,i_,i_,i_,i_,i_,i_,i_,i_,i_,i_,i_,i_,i_] (fun f_ wc => ∃ (kq : Nat), Aside0 (laws_FnRingsMoveOfAll.j7 kq a1 l2 a3 a4 a5 a6 = some r) ∧ Aside0 (kq ≤ kj20) ∧ Aside0 (Below w.heap.size w wc)) ?rest ?first
   case first =>
    intro J_ K_ hJ_ hK_
    repeat revert ‹_›
    intro HP0_ HP1_
    exact HP0_.out
   case rest =>
    intro f_ wc hcut
    dsimp only [maskF] at hcut ⊢
    repeat revert ‹_›
    intro HP0_ HP1_
    exact HP1_.out

def laws_FnRingsMoveOfAll.c7 : PSigma fun P0_ : Prop => PSigma fun P1_ : Prop => Hole P0_ → Hole P1_ → laws_FnRingsMoveOfAll.c6.1 := by
 refine' ⟨_, _, fun HP0_ HP1_ => _⟩
 rotate_left 2
 intro k a0 a1 A2 c2 l2 a3 a4 a5 a6 r w HR2 HC2 _ _ _ _ kj7 HJ7 t201 t202 A13 t205 t206 A14 t209 t210 A15 t211 t212 A16 t213 t214 A17 t215 t216 A18 t217 t218 t219 A19 t222 t223 t224 A20 w22 v203 w23 v207 w24 _ w25 nd w26 v220 w27 v225 HO204 HO208 HO221 HO226 _ f_ wc HO_15 HO_27 HB kj20 HJ20 HC96 _ _ J_ K_ hJ_ hK_
 have H := HC96.out
 clear HC96
 by_cases c97 : t202 = true
 ·subst c97
  rw [if_pos rfl] at H
  have H1 := H
  clear H
  have H := H1
  clear H1
  replace H := Option.bind_eq_some_iff.mp H
  obtain ⟨⟨t232, t233⟩, A980, H⟩ := H
  try dsimp +instances only at H
  replace H := H
  have A98 := Aside0.mk A980
  clear A980
  have HC99 := Aside0.mk H
  clear H
  go_upto_region 15 with (first | (go_at_call 16; (with_reducible refine (impl_StateOfNumber.calls kj20 (a0.size : Int) t209 t232 t233 _ A98.out).mono ?_); rintro e w100 ⟨rfl, hb⟩; have n0_ := Aside0.mk (Kd.R_below (by (with_reducible repeat (first | apply Kd.R_alloc | apply Kd.R_drewN | apply Kd.R_drew)); exact HO_15.out) hb); have n1_ := Aside0.mk (Kd.R_below (by (with_reducible repeat (first | apply Kd.R_alloc | apply Kd.R_drewN | apply Kd.R_drew)); exact HO_27.out) hb); have n2_ := Aside0.mk (below_step (by repeat (first | (with_reducible first | exact HB.out | apply below_alloc | apply pw_below_drewN | apply below_drew1) | exact HB.out)) hb); clear HO_15; clear HO_27; clear HB; have HO_15 := n0_; have HO_27 := n1_; have HB := n2_; clear n0_ n1_ n2_; (try clear hb); (try clear hb2); (try clear hk); (try clear hi)))
  repeat (go_quiet (first | (go_at_call 16; (with_reducible refine (impl_StateOfNumber.calls kj20 (a0.size : Int) t209 t232 t233 _ A98.out).mono ?_); rintro e w100 ⟨rfl, hb⟩; have n0_ := Aside0.mk (Kd.R_below (by (with_reducible repeat (first | apply Kd.R_alloc | apply Kd.R_drewN | apply Kd.R_drew)); exact HO_15.out) hb); have n1_ := Aside0.mk (Kd.R_below (by (with_reducible repeat (first | apply Kd.R_alloc | apply Kd.R_drewN | apply Kd.R_drew)); exact HO_27.out) hb); have n2_ := Aside0.mk (below_step (by repeat (first | (with_reducible first | exact HB.out | apply below_alloc | apply pw_below_drewN | apply below_drew1) | exact HB.out)) hb); clear HO_15; clear HO_27; clear HB; have HO_15 := n0_; have HO_27 := n1_; have HB := n2_; clear n0_ n1_ n2_; (try clear hb); (try clear hb2); (try clear hk); (try clear hi))); go_upto_region 15 with (first | (go_at_call 16; (with_reducible refine (impl_StateOfNumber.calls kj20 (a0.size : Int) t209 t232 t233 _ A98.out).mono ?_); rintro e w100 ⟨rfl, hb⟩; have n0_ := Aside0.mk (Kd.R_below (by (with_reducible repeat (first | apply Kd.R_alloc | apply Kd.R_drewN | apply Kd.R_drew)); exact HO_15.out) hb); have n1_ := Aside0.mk (Kd.R_below (by (with_reducible repeat (first | apply Kd.R_alloc | apply Kd.R_drewN | apply Kd.R_drew)); exact HO_27.out) hb); have n2_ := Aside0.mk (below_step (by repeat (first | (with_reducible first | exact HB.out | apply below_alloc | apply pw_below_drewN | apply below_drew1) | exact HB.out)) hb); clear HO_15; clear HO_27; clear HB; have HO_15 := n0_; have HO_27 := n1_; have HB := n2_; clear n0_ n1_ n2_; (try clear hb); (try clear hb2); (try clear hk); (try clear hi))))
  (try simp only [Act.put, List.setIfInBounds_toArray, List.set_cons_zero, List.set_cons_succ])
  refine wp_cutF [o_,o_,o_,o_,o_,o_,o_,o_,o_,o_,o_,o_,o_,o_,o_,o_,o_,o_,o_,o_,o_,o_,o_,o_,o_,o_,o_,o_,o_,o_,o_,o_,o_,o_,o_,o_,o_,o_,o_,o_,o_,o_,o_,o_,o_,o_,o_,o_,o_,o_,o_,o_,o_,o_,o_,o_,o_,o_,o_,o_,o_,o_,o_,o_,o_,o_,o_,o_,o_,o_,o_,o_,o_,o_,o_,i_,i_,i_,i_,i_,i_,i_,i_,i_,i_,i_,i_,i_,i_,i_,i_,i_,i_,i_,i_,i_,i_,i_,i_,i_,i_,i_,i_,i_,i_,i_,i_,i_,i_,i_,i_,i_,i_,i_,i_,i_,i_,i_,i_,i_,i_,i_,i_,i_,i_,i_,i_,i_,i_,i_,i_,i_,i_,i_,i_,i_,i_,i_,i_,i_,i_,i_,i_,i_,i_,i_,i_,i_,i_,i_,i_,i_,i_,i_,i_,i_,i_,i_,i_,i_,i_,i_,i_,i_,i_,i_,i_,i_,i_,i_,i_,i_,i_,i_,i_,i_,i_,i_,i_,i_,i_,i_,i_,i_,i_,i_,i_,i_,i_,i_,i_,i_,i_,i_,i_,i_,i_,i_,i_,i_,i_,i_,i_,i_,i_,i_,i_,i_,i_,i_,i_,i_,i_,i_,i_,i_,i_,i_,i_,i_,i_,i_,i_,i_,i_,i_,i_,i_,i_,i_,i_,i_,i_,i_,i_,i_,i_,i_,i_,i_,i_,i_,i_,i_,i_,i_,i_,i_,i_,i_,i_,i_,i_,i_,i_,i_,i_,i_,i_,i_,i_,i_,i_,i_,i_,i_,i_,i_,i_,i_,i_,i_,i_,i_,i_,i_,o_,o_,o_,i_,i_,i_,i_,i_,i_,i_,i_,i_,i_,i_,i_,i_,i_,i_,i_,i_,i_,i_,i_,i_,i_,i_,i_,i_,i_,i_,i_,i_,i_,i_,i_,i_,i_,i_,i_,i_,i_,i_,i_,i_,i_,i_,o_,o_,i_,i_,i_,i_,i_,i_,i_,i_,i_,i_,i_,i_,i_,i_,o_,o_,o_,i_,i_,i_,i_,i_,i_,i_,i_,i_,i_,i_,i_,i_,i_,i_,i_,i_,i_,i_,i_,i_,i_,i_,i_,i_,i_,i_,i_,i_,i_,i_,i_,i_,i_,i_,i_,i_,i_,i_,i_,i_,i_,i_,i_,i_,i_,i_,i_,i_,i_,i_,i_,i_,i_,i_,i_,i_,i_,i_,i_,i_,i_,i_,i_,i_,i_,i_,i_,i_,i_,i_,i_,i_,i_,i_,i_,i_,i_,i_,i_,i_,i_,i_,i_,i_,i_,i_,i_,i_,i_,i_,i_,i_,i_,i_,i_,i_,i_,i_,i_,i_,i_,i_,i_,i_,i_,i_,i_,i_,i_,i_,o_,o_,o_,i_,i_,i_,i_,i_,i_,i_,i_,i_,i_,i_,i_,i_,i_,i_,i_,i_,i_,i_,i_,i_,i_,i_,i_,i_,i_,i_,i_,i_,i_,i_,i_,i_,i_,i_,i_,i_,i_,i_,i_,i_,i_,i_,i_,i_,i_,i_,i_,i_,i_,i_,i_,i_,i_,i_] (fun f_ wc => ∃ (kq : Nat) (x275_98 : Bool), (f_ 275) = .bool x275_98 ∧ Aside0 (laws_FnRingsMoveOfAll.j2 kq a0 a1 l2 a3 a4 a5 a6 t201 t209 t217 t218 x275_98 = some r) ∧ Aside0 (kq ≤ kj20) ∧ Aside0 (Kd.R (Kd.int .i64) 3 wc w.heap.size (fun _ => True) v203 t201) ∧ Aside0 (Kd.R Kd.string 9 wc w.heap.size (fun _ => True) v220 t217) ∧ Aside0 (Below w.heap.size w wc)) ?rest ?first
  case first =>
   intro J_ K_ hJ_ hK_
   repeat revert ‹_›
   intro HP0_ HP1_
   exact HP0_.out
  case rest =>
   intro f_ wc hcut
   dsimp only [maskF] at hcut ⊢
   generalize f_ 275 = u275 at hcut ⊢
   repeat revert ‹_›
   intro HP0_ HP1_
   exact HP1_.out
 ·replace c97 := Bool.eq_false_iff.mpr c97
  subst c97
  rw [if_neg (show ¬ (false = true) by decide)] at H
  have H1 := H
  clear H
  have H := H1
  clear H1
  have H' := Aside0.mk H
  clear H
  go_wp2
  repeat (go_quiet (fail); try go_wp2)
  refine Met.intro (hJ_ _ _ ?mg_ ?rel)
  case mg_ => kernel_rfl
  case rel => exact ⟨_, H', ⟨by have := HJ7.out; have := HJ20.out; first | omega | exact Nat.le_refl _⟩, ⟨by repeat (first | (with_reducible first | exact HB.out | apply below_alloc | apply pw_below_drewN | apply below_drew1) | exact HB.out)⟩⟩

theorem laws_FnRingsMoveOfAll.c8 : laws_FnRingsMoveOfAll.c7.1 := by
 intro k a0 a1 A2 c2 l2 a3 a4 a5 a6 r w HR2 HC2 _ _ _ _ kj7 HJ7 t201 t205 t206 A14 t209 t210 A15 t211 t212 A16 t213 t214 A17 t215 t216 A18 t217 t218 t219 A19 t222 t223 t224 A20 w22 v203 w23 v207 w24 _ w25 nd w26 v220 w27 v225 HO204 HO208 HO221 HO226 _ f_ wc kj20 HJ20 _ _ _ _ _ A13 _ t232 t233 A98 HC99 w100 HO_15 HO_27 HB _ _ _ _ J_ K_ hJ_ hK_
 have H := HC99.out
 clear HC99
 by_cases c101 : (t201.length : Int) < 1
 ·rw [if_pos c101] at H
  have c101b0 : decide ((t201.length : Int) < 1) = true := decide_eq_true c101
  have c101b1 : decide (t201.length < 1) = true := decide_eq_true (by omega)
  clear c101
  (first | rw [c101b0] | (simp only [i64_w, i32_w]; rw [c101b0]) | skip)
  have H' := Aside0.mk H
  clear H
  obtain ⟨Ao102, co102, eo102⟩ := Kd.R_slice HO_15.out
  subst eo102
  go_wp2
  repeat (go_quiet (fail); try go_wp2)
  refine Met.intro (hJ_ _ _ ?mg_ ?rel)
  case mg_ => kernel_rfl
  case rel => exact ⟨_, (true), (by first | rfl | ((conv => lhs; whnf); first | rfl | (simp; done) | (simp [*]; done))), H', ⟨by have := HJ7.out; have := HJ20.out; first | omega | exact Nat.le_refl _⟩, ⟨by (with_reducible repeat (first | apply Kd.R_alloc | apply Kd.R_drewN | apply Kd.R_drew)); exact HO_15.out⟩, ⟨by (with_reducible repeat (first | apply Kd.R_alloc | apply Kd.R_drewN | apply Kd.R_drew)); exact HO_27.out⟩, ⟨by repeat (first | (with_reducible first | exact HB.out | apply below_alloc | apply pw_below_drewN | apply below_drew1) | exact HB.out)⟩⟩
 ·rw [if_neg c101] at H
  have c101b0 : decide ((t201.length : Int) < 1) = false := decide_eq_false c101
  have c101b1 : decide (t201.length < 1) = false := decide_eq_false (by omega)
  clear c101
  (first | rw [c101b0] | (simp only [i64_w, i32_w]; rw [c101b0]) | skip)
  by_cases c103 : (t201.length : Int) > 2
  ·rw [if_pos c103] at H
   have c103b0 : decide (2 < (t201.length : Int)) = true := decide_eq_true c103
   have c103b1 : decide (2 < t201.length) = true := decide_eq_true (by omega)
   clear c103
   have H' := Aside0.mk H
   clear H
   obtain ⟨Ao104, co104, eo104⟩ := Kd.R_slice HO_15.out
   subst eo104
   go_wp2
   repeat (go_quiet (fail); try go_wp2)
   refine Met.intro (hJ_ _ _ ?mg_ ?rel)
   case mg_ => kernel_rfl
   case rel => exact ⟨_, (true), (by first | rfl | ((conv => lhs; whnf); first | rfl | (simp; done) | (simp [*]; done))), H', ⟨by have := HJ7.out; have := HJ20.out; first | omega | exact Nat.le_refl _⟩, ⟨by (with_reducible repeat (first | apply Kd.R_alloc | apply Kd.R_drewN | apply Kd.R_drew)); exact HO_15.out⟩, ⟨by (with_reducible repeat (first | apply Kd.R_alloc | apply Kd.R_drewN | apply Kd.R_drew)); exact HO_27.out⟩, ⟨by repeat (first | (with_reducible first | exact HB.out | apply below_alloc | apply pw_below_drewN | apply below_drew1) | exact HB.out)⟩⟩
  ·rw [if_neg c103] at H
   have c103b0 : decide (2 < (t201.length : Int)) = false := decide_eq_false c103
   have c103b1 : decide (2 < t201.length) = false := decide_eq_false (by omega)
   clear c103
   by_cases c105 : 0 < (t201.length : Int)
   ·rw [if_pos c105] at H
    have c105b0 : decide (0 < (t201.length : Int)) = true := decide_eq_true c105
    have c105b1 : decide (0 < t201.length) = true := decide_eq_true (by omega)
    clear c105
    by_cases c106 : (rd t201 0) = 0
    ·rw [if_pos c106] at H
     have c106b0 : ((rd t201 0) == 0) = true := beq_iff_eq.mpr c106
     have c106b1 : ((rd t201 0) != 0) = false := bne_eq_false_iff_eq.mpr c106
     clear c106
     by_cases c107 : t209 < 0
     ·rw [if_pos c107] at H
      have c107b0 : decide (t209 < 0) = true := decide_eq_true c107
      clear c107
      have H' := Aside0.mk H
      clear H
      obtain ⟨Ao108, co108, eo108⟩ := Kd.R_slice HO_15.out
      subst eo108
      have p234 : 0 ≤ (0 : Int) := (by omega)
      have q234 : 0 < (t201.length : Int) := of_decide_eq_true (by first | (with_reducible assumption) | assumption)
      obtain ⟨ad234, e234, hx234_0⟩ := Kd.at_int (Kd.R_reads' HO_15.out).2.2 0 p234 q234
      cases e234
      have qi234 : (0 < t201.length) = True := eq_true (by omega)
      (try rw [show ((0 : Int)).toNat = 0 from rfl] at hx234_0)
      (try rw [Addr.add_zero'] at hx234_0)
      replace p234 := eq_true p234
      replace q234 := eq_true q234
      go_wp2
      repeat (go_quiet (fail); try go_wp2)
      refine Met.intro (hJ_ _ _ ?mg_ ?rel)
      case mg_ => kernel_rfl
      case rel => exact ⟨_, (true), (by first | rfl | ((conv => lhs; whnf); first | rfl | (simp; done) | (simp [*]; done))), H', ⟨by have := HJ7.out; have := HJ20.out; first | omega | exact Nat.le_refl _⟩, ⟨by (with_reducible repeat (first | apply Kd.R_alloc | apply Kd.R_drewN | apply Kd.R_drew)); exact HO_15.out⟩, ⟨by (with_reducible repeat (first | apply Kd.R_alloc | apply Kd.R_drewN | apply Kd.R_drew)); exact HO_27.out⟩, ⟨by repeat (first | (with_reducible first | exact HB.out | apply below_alloc | apply pw_below_drewN | apply below_drew1) | exact HB.out)⟩⟩
     ·rw [if_neg c107] at H
      have c107b0 : decide (t209 < 0) = false := decide_eq_false c107
      clear c107
      obtain ⟨ji109, hji109⟩ : ∃ j_ : Int, (shl .i64 1 (a0.size : Int)) = j_ := ⟨_, rfl⟩
      replace H : (if t209 ≥ (ji109) then (laws_FnRingsMoveOfAll.j2 kj20 a0 a1 l2 a3 a4 a5 a6 t201 t209 t217 t218 true) else (if t233 = true then (if t232.toList = a0.toList then (if t209 = 0 then (if (((t201.length : Int) == 1) != true) = true then (laws_FnRingsMoveOfAll.j2 kj20 a0 a1 l2 a3 a4 a5 a6 t201 t209 t217 t218 true) else (if (t217.length : Int) < 1 then (laws_FnRingsMoveOfAll.j2 kj20 a0 a1 l2 a3 a4 a5 a6 t201 t209 t217 t218 true) else (laws_FnRingsMoveOfAll.j2 kj20 a0 a1 l2 a3 a4 a5 a6 t201 t209 t217 t218 (decide ((t217.length : Int) > 2))))) else (if (((t201.length : Int) == 1) != (t209 == (wrap64 ((ji109) - 1)))) = true then (laws_FnRingsMoveOfAll.j2 kj20 a0 a1 l2 a3 a4 a5 a6 t201 t209 t217 t218 true) else (if (t217.length : Int) < 1 then (laws_FnRingsMoveOfAll.j2 kj20 a0 a1 l2 a3 a4 a5 a6 t201 t209 t217 t218 true) else (laws_FnRingsMoveOfAll.j2 kj20 a0 a1 l2 a3 a4 a5 a6 t201 t209 t217 t218 (decide ((t217.length : Int) > 2)))))) else (laws_FnRingsMoveOfAll.j2 kj20 a0 a1 l2 a3 a4 a5 a6 t201 t209 t217 t218 true)) else (laws_FnRingsMoveOfAll.j2 kj20 a0 a1 l2 a3 a4 a5 a6 t201 t209 t217 t218 true))) = some r := by first | (rw [hji109] at H; exact H) | (simp only [hji109] at H ⊢; exact H)
      have hji109_ : (IntKind.i64.wrap (1 * 2 ^ min (a0.size : Int).toNat 64)) = ji109 := hji109
      have hji109z : (a0.size : Int) ≤ 64 → (IntKind.i64.wrap (1 * 2 ^ (a0.size : Int).toNat)) = ji109 := shl_small hji109
      have hji109u : (IntKind.i64.wrap (2 ^ min (a0.size : Int).toNat 64)) = ji109 := by have h_ := hji109_; rw [Int.one_mul] at h_; exact h_
      have hji109s : IntKind.i64.wrap (2 ^ min a0.size 64) = ji109 := by have h_ := hji109u; rw [Int.toNat_natCast] at h_; exact h_
      have hji109t : wrap64 (2 ^ min a0.size 64) = ji109 := (i64_w _).symm.trans hji109s
      have hji109v : (a0.size : Int) ≤ 64 → (IntKind.i64.wrap (2 ^ (a0.size : Int).toNat)) = ji109 := fun hle_ => by have h_ := hji109z hle_; rw [Int.one_mul] at h_; exact h_
      have hji109y : (wrap64 (1 * 2 ^ min (a0.size : Int).toNat 64)) = ji109 := (i64_w _).symm.trans hji109_
      have hji109x : (a0.size : Int) ≤ 64 → (wrap64 (1 * 2 ^ (a0.size : Int).toNat)) = ji109 := fun h_ => (i64_w _).symm.trans (hji109z h_)
      by_cases c110 : t209 ≥ (ji109)
      ·rw [if_pos c110] at H
       have c110b0 : decide ((ji109) ≤ t209) = true := decide_eq_true c110
       clear c110
       have H' := Aside0.mk H
       clear H
       obtain ⟨Ao111, co111, eo111⟩ := Kd.R_slice HO_15.out
       subst eo111
       have p234 : 0 ≤ (0 : Int) := (by omega)
       have q234 : 0 < (t201.length : Int) := of_decide_eq_true (by first | (with_reducible assumption) | assumption)
       obtain ⟨ad234, e234, hx234_0⟩ := Kd.at_int (Kd.R_reads' HO_15.out).2.2 0 p234 q234
       cases e234
       have qi234 : (0 < t201.length) = True := eq_true (by omega)
       (try rw [show ((0 : Int)).toNat = 0 from rfl] at hx234_0)
       (try rw [Addr.add_zero'] at hx234_0)
       replace p234 := eq_true p234
       replace q234 := eq_true q234
       go_wp2
       repeat (go_quiet (fail); try go_wp2)
       refine Met.intro (hJ_ _ _ ?mg_ ?rel)
       case mg_ => kernel_rfl
       case rel => exact ⟨_, (true), (by first | rfl | ((conv => lhs; whnf); first | rfl | (simp; done) | (simp [*]; done))), H', ⟨by have := HJ7.out; have := HJ20.out; first | omega | exact Nat.le_refl _⟩, ⟨by (with_reducible repeat (first | apply Kd.R_alloc | apply Kd.R_drewN | apply Kd.R_drew)); exact HO_15.out⟩, ⟨by (with_reducible repeat (first | apply Kd.R_alloc | apply Kd.R_drewN | apply Kd.R_drew)); exact HO_27.out⟩, ⟨by repeat (first | (with_reducible first | exact HB.out | apply below_alloc | apply pw_below_drewN | apply below_drew1) | exact HB.out)⟩⟩
      ·rw [if_neg c110] at H
       have c110b0 : decide ((ji109) ≤ t209) = false := decide_eq_false c110
       clear c110
       by_cases c112 : t233 = true
       ·subst c112
        rw [if_pos rfl] at H
        have H1 := H
        clear H
        have H := H1
        clear H1
        by_cases c113 : t232.toList = a0.toList
        ·rw [if_pos c113] at H
         have c113b0 : (t232.toList == a0.toList) = true := beq_iff_eq.mpr c113
         have c113b1 : (t232.toList != a0.toList) = false := bne_eq_false_iff_eq.mpr c113
         (try (have c113n1 : (!(t232.toList == a0.toList)) = false := c113b1))
         clear c113
         by_cases c114 : t209 = 0
         ·rw [if_pos c114] at H
          have c114b0 : (t209 == 0) = true := beq_iff_eq.mpr c114
          have c114b1 : (t209 != 0) = false := bne_eq_false_iff_eq.mpr c114
          clear c114
          by_cases c115 : (((t201.length : Int) == 1) != true) = true
          ·rw [if_pos c115] at H
           have c115b0 : (((t201.length : Int) == 1) != true) = true := c115
           (try (have c115b1 : decide (((t201.length : Int) == 1) = true) = false := by simpa using c115))
           (try (have c115b2 : (((t201.length : Int) == 1) == true) = false := by simpa using c115))
           (try (have c115b3 : ¬ (((t201.length : Int) == 1) = true) := by simpa using c115))
           clear c115
           have H' := Aside0.mk H
           clear H
           obtain ⟨Ao116, co116, eo116⟩ := Kd.R_slice HO_15.out
           subst eo116
           have p234 : 0 ≤ (0 : Int) := (by omega)
           have q234 : 0 < (t201.length : Int) := of_decide_eq_true (by first | (with_reducible assumption) | assumption)
           obtain ⟨ad234, e234, hx234_0⟩ := Kd.at_int (Kd.R_reads' HO_15.out).2.2 0 p234 q234
           cases e234
           have qi234 : (0 < t201.length) = True := eq_true (by omega)
           (try rw [show ((0 : Int)).toNat = 0 from rfl] at hx234_0)
           (try rw [Addr.add_zero'] at hx234_0)
           replace p234 := eq_true p234
           replace q234 := eq_true q234
           go_wp2
           repeat (go_quiet (fail); try go_wp2)
           refine Met.intro (hJ_ _ _ ?mg_ ?rel)
           case mg_ => kernel_rfl
           case rel => exact ⟨_, (true), (by first | rfl | ((conv => lhs; whnf); first | rfl | (simp; done) | (simp [*]; done))), H', ⟨by have := HJ7.out; have := HJ20.out; first | omega | exact Nat.le_refl _⟩, ⟨by (with_reducible repeat (first | apply Kd.R_alloc | apply Kd.R_drewN | apply Kd.R_drew)); exact HO_15.out⟩, ⟨by (with_reducible repeat (first | apply Kd.R_alloc | apply Kd.R_drewN | apply Kd.R_drew)); exact HO_27.out⟩, ⟨by repeat (first | (with_reducible first | exact HB.out | apply below_alloc | apply pw_below_drewN | apply below_drew1) | exact HB.out)⟩⟩
          ·rw [if_neg c115] at H
           have c115b0 : (((t201.length : Int) == 1) != true) = false := by simpa using c115
           (try (have c115b1 : decide (((t201.length : Int) == 1) = true) = true := by simpa using c115))
           (try (have c115b2 : (((t201.length : Int) == 1) == true) = true := by simpa using c115))
           clear c115
           by_cases c117 : (t217.length : Int) < 1
           ·rw [if_pos c117] at H
            have c117b0 : decide ((t217.length : Int) < 1) = true := decide_eq_true c117
            have c117b1 : decide (t217.length < 1) = true := decide_eq_true (by omega)
            clear c117
            have H' := Aside0.mk H
            clear H
            obtain ⟨Ao118, co118, eo118⟩ := Kd.R_slice HO_15.out
            subst eo118
            have p234 : 0 ≤ (0 : Int) := (by omega)
            have q234 : 0 < (t201.length : Int) := of_decide_eq_true (by first | (with_reducible assumption) | assumption)
            obtain ⟨ad234, e234, hx234_0⟩ := Kd.at_int (Kd.R_reads' HO_15.out).2.2 0 p234 q234
            cases e234
            have qi234 : (0 < t201.length) = True := eq_true (by omega)
            (try rw [show ((0 : Int)).toNat = 0 from rfl] at hx234_0)
            (try rw [Addr.add_zero'] at hx234_0)
            replace p234 := eq_true p234
            replace q234 := eq_true q234
            obtain ⟨Ao119, co119, eo119⟩ := Kd.R_slice HO_27.out
            subst eo119
            go_wp2
            repeat (go_quiet (fail); try go_wp2)
            refine Met.intro (hJ_ _ _ ?mg_ ?rel)
            case mg_ => kernel_rfl
            case rel => exact ⟨_, (true), (by first | rfl | ((conv => lhs; whnf); first | rfl | (simp; done) | (simp [*]; done))), H', ⟨by have := HJ7.out; have := HJ20.out; first | omega | exact Nat.le_refl _⟩, ⟨by (with_reducible repeat (first | apply Kd.R_alloc | apply Kd.R_drewN | apply Kd.R_drew)); exact HO_15.out⟩, ⟨by (with_reducible repeat (first | apply Kd.R_alloc | apply Kd.R_drewN | apply Kd.R_drew)); exact HO_27.out⟩, ⟨by repeat (first | (with_reducible first | exact HB.out | apply below_alloc | apply pw_below_drewN | apply below_drew1) | exact HB.out)⟩⟩
           ·rw [if_neg c117] at H
            have c117b0 : decide ((t217.length : Int) < 1) = false := decide_eq_false c117
            have c117b1 : decide (t217.length < 1) = false := decide_eq_false (by omega)
            clear c117
            have H' := Aside0.mk H
            clear H
            obtain ⟨Ao120, co120, eo120⟩ := Kd.R_slice HO_15.out
            subst eo120
            have p234 : 0 ≤ (0 : Int) := (by omega)
            have q234 : 0 < (t201.length : Int) := of_decide_eq_true (by first | (with_reducible assumption) | assumption)
            obtain ⟨ad234, e234, hx234_0⟩ := Kd.at_int (Kd.R_reads' HO_15.out).2.2 0 p234 q234
            cases e234
            have qi234 : (0 < t201.length) = True := eq_true (by omega)
            (try rw [show ((0 : Int)).toNat = 0 from rfl] at hx234_0)
            (try rw [Addr.add_zero'] at hx234_0)
            replace p234 := eq_true p234
            replace q234 := eq_true q234
            obtain ⟨Ao121, co121, eo121⟩ := Kd.R_slice HO_27.out
            subst eo121
            go_wp2
            repeat (go_quiet (fail); try go_wp2)
            refine Met.intro (hJ_ _ _ ?mg_ ?rel)
            case mg_ => kernel_rfl
            case rel => exact ⟨_, (decide ((t217.length : Int) > 2)), (by first | rfl | ((conv => lhs; whnf); first | rfl | (simp; done) | (simp [*]; done))), H', ⟨by have := HJ7.out; have := HJ20.out; first | omega | exact Nat.le_refl _⟩, ⟨by (with_reducible repeat (first | apply Kd.R_alloc | apply Kd.R_drewN | apply Kd.R_drew)); exact HO_15.out⟩, ⟨by (with_reducible repeat (first | apply Kd.R_alloc | apply Kd.R_drewN | apply Kd.R_drew)); exact HO_27.out⟩, ⟨by repeat (first | (with_reducible first | exact HB.out | apply below_alloc | apply pw_below_drewN | apply below_drew1) | exact HB.out)⟩⟩
         ·rw [if_neg c114] at H
          have c114b0 : (t209 == 0) = false := beq_eq_false_iff_ne.mpr c114
          have c114b1 : (t209 != 0) = true := bne_iff_ne.mpr c114
          by_cases c123 : (((t201.length : Int) == 1) != (t209 == (wrap64 ((ji109) - 1)))) = true
          ·rw [if_pos c123] at H
           have c123b0 : (((t201.length : Int) == 1) != (t209 == (wrap64 ((ji109) - 1)))) = true := c123
           (try (have c123b1 : decide (((t201.length : Int) == 1) = (t209 == (wrap64 ((ji109) - 1)))) = false := by simpa using c123))
           (try (have c123b2 : (((t201.length : Int) == 1) == (t209 == (wrap64 ((ji109) - 1)))) = false := by simpa using c123))
           (try (have c123b3 : ¬ (((t201.length : Int) == 1) = (t209 == (wrap64 ((ji109) - 1)))) := by simpa using c123))
           clear c123
           have H' := Aside0.mk H
           clear H
           obtain ⟨Ao124, co124, eo124⟩ := Kd.R_slice HO_15.out
           subst eo124
           have p234 : 0 ≤ (0 : Int) := (by omega)
           have q234 : 0 < (t201.length : Int) := of_decide_eq_true (by first | (with_reducible assumption) | assumption)
           obtain ⟨ad234, e234, hx234_0⟩ := Kd.at_int (Kd.R_reads' HO_15.out).2.2 0 p234 q234
           cases e234
           have qi234 : (0 < t201.length) = True := eq_true (by omega)
           (try rw [show ((0 : Int)).toNat = 0 from rfl] at hx234_0)
           (try rw [Addr.add_zero'] at hx234_0)
           replace p234 := eq_true p234
           replace q234 := eq_true q234
           go_wp2
           repeat (go_quiet (fail); try go_wp2)
           refine Met.intro (hJ_ _ _ ?mg_ ?rel)
           case mg_ => kernel_rfl
           case rel => exact ⟨_, (true), (by first | rfl | ((conv => lhs; whnf); first | rfl | (simp; done) | (simp [*]; done))), H', ⟨by have := HJ7.out; have := HJ20.out; first | omega | exact Nat.le_refl _⟩, ⟨by (with_reducible repeat (first | apply Kd.R_alloc | apply Kd.R_drewN | apply Kd.R_drew)); exact HO_15.out⟩, ⟨by (with_reducible repeat (first | apply Kd.R_alloc | apply Kd.R_drewN | apply Kd.R_drew)); exact HO_27.out⟩, ⟨by repeat (first | (with_reducible first | exact HB.out | apply below_alloc | apply pw_below_drewN | apply below_drew1) | exact HB.out)⟩⟩
          ·rw [if_neg c123] at H
           have c123b0 : (((t201.length : Int) == 1) != (t209 == (wrap64 ((ji109) - 1)))) = false := by simpa using c123
           (try (have c123b1 : decide (((t201.length : Int) == 1) = (t209 == (wrap64 ((ji109) - 1)))) = true := by simpa using c123))
           (try (have c123b2 : (((t201.length : Int) == 1) == (t209 == (wrap64 ((ji109) - 1)))) = true := by simpa using c123))
           clear c123
           by_cases c125 : (t217.length : Int) < 1
           ·rw [if_pos c125] at H
            have c125b0 : decide ((t217.length : Int) < 1) = true := decide_eq_true c125
            have c125b1 : decide (t217.length < 1) = true := decide_eq_true (by omega)
            clear c125
            have H' := Aside0.mk H
            clear H
            obtain ⟨Ao126, co126, eo126⟩ := Kd.R_slice HO_15.out
            subst eo126
            have p234 : 0 ≤ (0 : Int) := (by omega)
            have q234 : 0 < (t201.length : Int) := of_decide_eq_true (by first | (with_reducible assumption) | assumption)
            obtain ⟨ad234, e234, hx234_0⟩ := Kd.at_int (Kd.R_reads' HO_15.out).2.2 0 p234 q234
            cases e234
            have qi234 : (0 < t201.length) = True := eq_true (by omega)
            (try rw [show ((0 : Int)).toNat = 0 from rfl] at hx234_0)
            (try rw [Addr.add_zero'] at hx234_0)
            replace p234 := eq_true p234
            replace q234 := eq_true q234
            obtain ⟨Ao127, co127, eo127⟩ := Kd.R_slice HO_27.out
            subst eo127
            go_wp2
            repeat (go_quiet (fail); try go_wp2)
            refine Met.intro (hJ_ _ _ ?mg_ ?rel)
            case mg_ => kernel_rfl
            case rel => exact ⟨_, (true), (by first | rfl | ((conv => lhs; whnf); first | rfl | (simp; done) | (simp [*]; done))), H', ⟨by have := HJ7.out; have := HJ20.out; first | omega | exact Nat.le_refl _⟩, ⟨by (with_reducible repeat (first | apply Kd.R_alloc | apply Kd.R_drewN | apply Kd.R_drew)); exact HO_15.out⟩, ⟨by (with_reducible repeat (first | apply Kd.R_alloc | apply Kd.R_drewN | apply Kd.R_drew)); exact HO_27.out⟩, ⟨by repeat (first | (with_reducible first | exact HB.out | apply below_alloc | apply pw_below_drewN | apply below_drew1) | exact HB.out)⟩⟩
           ·rw [if_neg c125] at H
            have c125b0 : decide ((t217.length : Int) < 1) = false := decide_eq_false c125
            have c125b1 : decide (t217.length < 1) = false := decide_eq_false (by omega)
            clear c125
            have H' := Aside0.mk H
            clear H
            obtain ⟨Ao128, co128, eo128⟩ := Kd.R_slice HO_15.out
            subst eo128
            have p234 : 0 ≤ (0 : Int) := (by omega)
            have q234 : 0 < (t201.length : Int) := of_decide_eq_true (by first | (with_reducible assumption) | assumption)
            obtain ⟨ad234, e234, hx234_0⟩ := Kd.at_int (Kd.R_reads' HO_15.out).2.2 0 p234 q234
            cases e234
            have qi234 : (0 < t201.length) = True := eq_true (by omega)
            (try rw [show ((0 : Int)).toNat = 0 from rfl] at hx234_0)
            (try rw [Addr.add_zero'] at hx234_0)
            replace p234 := eq_true p234
            replace q234 := eq_true q234
            obtain ⟨Ao129, co129, eo129⟩ := Kd.R_slice HO_27.out
            subst eo129
            go_wp2
            repeat (go_quiet (fail); try go_wp2)
            refine Met.intro (hJ_ _ _ ?mg_ ?rel)
            case mg_ => kernel_rfl
            case rel => exact ⟨_, (decide ((t217.length : Int) > 2)), (by first | rfl | ((conv => lhs; whnf); first | rfl | (simp; done) | (simp [*]; done))), H', ⟨by have := HJ7.out; have := HJ20.out; first | omega | exact Nat.le_refl _⟩, ⟨by (with_reducible repeat (first | apply Kd.R_alloc | apply Kd.R_drewN | apply Kd.R_drew)); exact HO_15.out⟩, ⟨by (with_reducible repeat (first | apply Kd.R_alloc | apply Kd.R_drewN | apply Kd.R_drew)); exact HO_27.out⟩, ⟨by repeat (first | (with_reducible first | exact HB.out | apply below_alloc | apply pw_below_drewN | apply below_drew1) | exact HB.out)⟩⟩
        ·rw [if_neg c113] at H
         have c113b0 : (t232.toList == a0.toList) = false := beq_eq_false_iff_ne.mpr c113
         have c113b1 : (t232.toList != a0.toList) = true := bne_iff_ne.mpr c113
         (try (have c113n1 : (!(t232.toList == a0.toList)) = true := c113b1))
         have H' := Aside0.mk H
         clear H
         obtain ⟨Ao130, co130, eo130⟩ := Kd.R_slice HO_15.out
         subst eo130
         have p234 : 0 ≤ (0 : Int) := (by omega)
         have q234 : 0 < (t201.length : Int) := of_decide_eq_true (by first | (with_reducible assumption) | assumption)
         obtain ⟨ad234, e234, hx234_0⟩ := Kd.at_int (Kd.R_reads' HO_15.out).2.2 0 p234 q234
         cases e234
         have qi234 : (0 < t201.length) = True := eq_true (by omega)
         (try rw [show ((0 : Int)).toNat = 0 from rfl] at hx234_0)
         (try rw [Addr.add_zero'] at hx234_0)
         replace p234 := eq_true p234
         replace q234 := eq_true q234
         go_wp2
         repeat (go_quiet (fail); try go_wp2)
         refine Met.intro (hJ_ _ _ ?mg_ ?rel)
         case mg_ => kernel_rfl
         case rel => exact ⟨_, (true), (by first | rfl | ((conv => lhs; whnf); first | rfl | (simp; done) | (simp [*]; done))), H', ⟨by have := HJ7.out; have := HJ20.out; first | omega | exact Nat.le_refl _⟩, ⟨by (with_reducible repeat (first | apply Kd.R_alloc | apply Kd.R_drewN | apply Kd.R_drew)); exact HO_15.out⟩, ⟨by (with_reducible repeat (first | apply Kd.R_alloc | apply Kd.R_drewN | apply Kd.R_drew)); exact HO_27.out⟩, ⟨by repeat (first | (with_reducible first | exact HB.out | apply below_alloc | apply pw_below_drewN | apply below_drew1) | exact HB.out)⟩⟩
       ·replace c112 := Bool.eq_false_iff.mpr c112
        subst c112
        rw [if_neg (show ¬ (false = true) by decide)] at H
        have H1 := H
        clear H
        have H := H1
        clear H1
        have H' := Aside0.mk H
        clear H
        obtain ⟨Ao131, co131, eo131⟩ := Kd.R_slice HO_15.out
        subst eo131
        have p234 : 0 ≤ (0 : Int) := (by omega)
        have q234 : 0 < (t201.length : Int) := of_decide_eq_true (by first | (with_reducible assumption) | assumption)
        obtain ⟨ad234, e234, hx234_0⟩ := Kd.at_int (Kd.R_reads' HO_15.out).2.2 0 p234 q234
        cases e234
        have qi234 : (0 < t201.length) = True := eq_true (by omega)
        (try rw [show ((0 : Int)).toNat = 0 from rfl] at hx234_0)
        (try rw [Addr.add_zero'] at hx234_0)
        replace p234 := eq_true p234
        replace q234 := eq_true q234
        go_wp2
        repeat (go_quiet (fail); try go_wp2)
        refine Met.intro (hJ_ _ _ ?mg_ ?rel)
        case mg_ => kernel_rfl
        case rel => exact ⟨_, (true), (by first | rfl | ((conv => lhs; whnf); first | rfl | (simp; done) | (simp [*]; done))), H', ⟨by have := HJ7.out; have := HJ20.out; first | omega | exact Nat.le_refl _⟩, ⟨by (with_reducible repeat (first | apply Kd.R_alloc | apply Kd.R_drewN | apply Kd.R_drew)); exact HO_15.out⟩, ⟨by (with_reducible repeat (first | apply Kd.R_alloc | apply Kd.R_drewN | apply Kd.R_drew)); exact HO_27.out⟩, ⟨by repeat (first | (with_reducible first | exact HB.out | apply below_alloc | apply pw_below_drewN | apply below_drew1) | exact HB.out)⟩⟩
    ·rw [if_neg c106] at H
     have c106b0 : ((rd t201 0) == 0) = false := beq_eq_false_iff_ne.mpr c106
     have c106b1 : ((rd t201 0) != 0) = true := bne_iff_ne.mpr c106
     have H' := Aside0.mk H
     clear H
     obtain ⟨Ao132, co132, eo132⟩ := Kd.R_slice HO_15.out
     subst eo132
     have p234 : 0 ≤ (0 : Int) := (by omega)
     have q234 : 0 < (t201.length : Int) := of_decide_eq_true (by first | (with_reducible assumption) | assumption)
     obtain ⟨ad234, e234, hx234_0⟩ := Kd.at_int (Kd.R_reads' HO_15.out).2.2 0 p234 q234
     cases e234
     have qi234 : (0 < t201.length) = True := eq_true (by omega)
     (try rw [show ((0 : Int)).toNat = 0 from rfl] at hx234_0)
     (try rw [Addr.add_zero'] at hx234_0)
     replace p234 := eq_true p234
     replace q234 := eq_true q234
     go_wp2
     repeat (go_quiet (fail); try go_wp2)
     refine Met.intro (hJ_ _ _ ?mg_ ?rel)
     case mg_ => kernel_rfl
     case rel => exact ⟨_, (true), (by first | rfl | ((conv => lhs; whnf); first | rfl | (simp; done) | (simp [*]; done))), H', ⟨by have := HJ7.out; have := HJ20.out; first | omega | exact Nat.le_refl _⟩, ⟨by (with_reducible repeat (first | apply Kd.R_alloc | apply Kd.R_drewN | apply Kd.R_drew)); exact HO_15.out⟩, ⟨by (with_reducible repeat (first | apply Kd.R_alloc | apply Kd.R_drewN | apply Kd.R_drew)); exact HO_27.out⟩, ⟨by repeat (first | (with_reducible first | exact HB.out | apply below_alloc | apply pw_below_drewN | apply below_drew1) | exact HB.out)⟩⟩
   ·rw [if_neg c105] at H
    exact absurd H (by simp)

def laws_FnRingsMoveOfAll.c9 : PSigma fun P0_ : Prop => Hole P0_ → laws_FnRingsMoveOfAll.c7.2.1 := by
 refine' ⟨_, fun HP0_ => _⟩
 rotate_left 1
 intro k a0 a1 A2 c2 l2 a3 a4 a5 a6 r w HR2 HC2 _ _ _ _ kj7 HJ7 t201 t205 t206 A14 t209 t210 A15 t211 t212 A16 t213 t214 A17 t215 t216 A18 t217 t218 t219 A19 t222 t223 t224 A20 w22 v203 w23 v207 w24 _ w25 nd w26 v220 w27 v225 HO204 HO208 HO221 HO226 _ _ _ kj20 HJ20 _ _ J_ K_ hK_ A13 hJ_ t232 t233 A98 HC99 w100 HO_15 HO_27 HB _ _ _ _ f_ wc u275 hcut
 clear HC99
 try clear c1
 try clear c2
 try clear p2
 try clear q2
 try clear hx2
 try clear qi2
 try clear c3
 try clear c4
 try clear c5
 try clear c6
 try clear p6
 try clear c9
 try clear c9b0
 try clear c9b1
 try clear c10
 try clear c10b0
 try clear c10b1
 try clear c11
 try clear c11b0
 try clear c11b1
 try clear c12
 try clear p23
 try clear q23
 try clear hx23
 try clear qi23
 try clear c28
 try clear c28b0
 try clear c28b1
 try clear c28b2
 try clear c30
 try clear c31
 try clear c31b0
 try clear c31b1
 try clear c31b2
 try clear c34
 try clear c34b0
 try clear c34b1
 try clear c35
 try clear c35b0
 try clear c35b1
 try clear c35b2
 try clear c38
 try clear c38b0
 try clear c38b1
 try clear c39
 try clear c39b0
 try clear c39b1
 try clear c39b2
 try clear c43
 try clear c44
 try clear c44b0
 try clear c44b1
 try clear c46
 try clear c46b0
 try clear c46b1
 try clear c46b2
 try clear c54
 try clear c54b0
 try clear c54b1
 try clear c54b2
 try clear c61
 try clear c61b0
 try clear c61b1
 try clear c61b2
 try clear p64
 try clear c68
 try clear c68b0
 try clear c68b1
 try clear c68b2
 try clear c95
 try clear c97
 try clear c101
 try clear c101b0
 try clear c101b1
 try clear c103
 try clear c103b0
 try clear c103b1
 try clear c105
 try clear c105b0
 try clear c105b1
 try clear c106
 try clear c106b0
 try clear c106b1
 try clear c107
 try clear c107b0
 try clear c110
 try clear c110b0
 try clear c112
 try clear c113
 try clear c113b0
 try clear c113b1
 try clear c114
 try clear c114b0
 try clear c114b1
 try clear c115
 try clear c115b0
 try clear c115b1
 try clear c115b2
 try clear c117
 try clear c117b0
 try clear c117b1
 try clear c122
 try clear c122b0
 try clear c123
 try clear c123b0
 try clear c123b1
 try clear c123b2
 try clear c125
 try clear c125b0
 try clear c125b1
 try clear hx234_0
 try clear p2
 try clear p234
 try clear q234
 obtain ⟨kq, x275_98, rfl, HA, HJ98, HO_15, HO_27, HB⟩ := hcut
 cases kq with
 | zero => exact absurd HA.out (by simp [laws_FnRingsMoveOfAll.j2])
 | succ kj98 =>
  have H := HA.out
  clear HA
  simp only [laws_FnRingsMoveOfAll.j2] at H
  by_cases c133 : x275_98 = true
  ·subst c133
   rw [if_pos rfl] at H
   have H1 := H
   clear H
   have H := H1
   clear H1
   obtain rfl := Option.some.inj H
   go_wp2
   repeat (go_quiet (fail); try go_wp2)
   go_ret
   exact ⟨by first | rfl | (simp [errW_none, errW_some] <;> rfl) | (simp [*, errW_none, errW_some] <;> rfl), by repeat (first | (with_reducible first | exact HB.out | apply below_alloc | apply pw_below_drewN | apply below_drew1) | exact HB.out)⟩
  ·replace c133 := Bool.eq_false_iff.mpr c133
   subst c133
   rw [if_neg (show ¬ (false = true) by decide)] at H
   have H1 := H
   clear H
   have H := H1
   clear H1
   have H' := Aside0.mk H
   clear H
   obtain ⟨Ao134, co134, eo134⟩ := Kd.R_slice HO_15.out
   subst eo134
   go_wp2
   repeat (go_quiet (fail); try go_wp2)
   go_loopg [278] kj98 (fun kq v278 w' => ∃ (x278_4 : Int), v278 = .int .i64 x278_4 ∧ Aside0 (laws_FnRingsMoveOfAll.l0 kq a0 a1 l2 a3 a4 a5 a6 t209 t217 t218 t201 (t201.length : Int) x278_4 = some r) ∧ Aside0 (kq ≤ kj98) ∧ Aside0 (Kd.R Kd.string 9 w' w.heap.size (fun _ => True) v220 t217) ∧ Aside0 (Kd.R (Kd.int .i64) 3 w' w.heap.size (fun _ => True) (.slice Ao134 t201.length co134) t201) ∧ Aside0 (Below w.heap.size w w'))
   case atStart => exact ⟨(0), (by first | rfl | (simp; done) | (simp [*]; done)), H', ⟨Nat.le_refl _⟩, ⟨by (with_reducible repeat (first | apply Kd.R_alloc | apply Kd.R_drewN | apply Kd.R_drew)); exact HO_27.out⟩, ⟨by (with_reducible repeat (first | apply Kd.R_alloc | apply Kd.R_drewN | apply Kd.R_drew)); exact HO_15.out⟩, ⟨by repeat (first | (with_reducible first | exact HB.out | apply below_alloc | apply pw_below_drewN | apply below_drew1) | exact HB.out)⟩⟩
   case round =>
    repeat revert ‹_›
    intro HP0_
    exact HP0_.out

def laws_FnRingsMoveOfAll.c10 : PSigma fun P0_ : Prop => PSigma fun P1_ : Prop => Hole P0_ → Hole P1_ → laws_FnRingsMoveOfAll.c9.1 := by
 refine' ⟨_, _, fun HP0_ HP1_ => _⟩
 rotate_left 2
 intro k a0 a1 A2 c2 l2 a3 a4 a5 a6 r w HR2 HC2 _ _ _ _ kj7 HJ7 t201 t205 t206 A14 t209 t210 A15 t211 t212 A16 t213 t214 A17 t215 t216 A18 t217 t218 t219 A19 t222 t223 t224 A20 w22 w23 v207 w24 _ w25 nd w26 v220 w27 v225 HO221 HO226 _ _ _ kj20 HJ20 _ _ J_ K_ hK_ A13 t232 t233 A98 w100 _ _ f_ wc HO_27 HB kj98 HJ98 H' Ao134 co134 HO204 HO208 hJ_ _ HO_15 _ _ gk wr u14 u36 u37 u38 u39 u40 u41 u42 u43 u278 u279 u280 u281 u282 u283 u284 u285 u286 u287 u288 u289 u290 u291 u292 u293 u294 u295 u296 u297 u298 u299 u300 u301 u302 u303 u304 u305 u306 u307 u308 u309 u310 u311 u312 u313 u314 u315 u316 u317 u318 u319 u320 u321 u322 u323 u324 u325 u326 u327 u328 u329 u330 u331 u332 u333 u334 u335 u336 u337 hrel _ _ _ _
 clear H'
 try clear c1
 try clear c2
 try clear p2
 try clear q2
 try clear hx2
 try clear qi2
 try clear c3
 try clear c4
 try clear c5
 try clear c6
 try clear p6
 try clear c9
 try clear c9b0
 try clear c9b1
 try clear c10
 try clear c10b0
 try clear c10b1
 try clear c11
 try clear c11b0
 try clear c11b1
 try clear c12
 try clear c13
 try clear p23
 try clear q23
 try clear hx23
 try clear qi23
 try clear c28
 try clear c28b0
 try clear c28b1
 try clear c28b2
 try clear c30
 try clear c31
 try clear c31b0
 try clear c31b1
 try clear c31b2
 try clear c34
 try clear c34b0
 try clear c34b1
 try clear c35
 try clear c35b0
 try clear c35b1
 try clear c35b2
 try clear c38
 try clear c38b0
 try clear c38b1
 try clear c39
 try clear c39b0
 try clear c39b1
 try clear c39b2
 try clear c43
 try clear c44
 try clear c44b0
 try clear c44b1
 try clear c46
 try clear c46b0
 try clear c46b1
 try clear c46b2
 try clear c54
 try clear c54b0
 try clear c54b1
 try clear c54b2
 try clear c61
 try clear c61b0
 try clear c61b1
 try clear c61b2
 try clear p64
 try clear c68
 try clear c68b0
 try clear c68b1
 try clear c68b2
 try clear c95
 try clear c97
 try clear c101
 try clear c101b0
 try clear c101b1
 try clear c103
 try clear c103b0
 try clear c103b1
 try clear c105
 try clear c105b0
 try clear c105b1
 try clear c106
 try clear c106b0
 try clear c106b1
 try clear c107
 try clear c107b0
 try clear c110
 try clear c110b0
 try clear c112
 try clear c113
 try clear c113b0
 try clear c113b1
 try clear c114
 try clear c114b0
 try clear c114b1
 try clear c115
 try clear c115b0
 try clear c115b1
 try clear c115b2
 try clear c117
 try clear c117b0
 try clear c117b1
 try clear c122
 try clear c122b0
 try clear c123
 try clear c123b0
 try clear c123b1
 try clear c123b2
 try clear c125
 try clear c125b0
 try clear c125b1
 try clear c133
 try clear hx234_0
 try clear p2
 try clear p23
 try clear p234
 try clear p6
 try clear p64
 try clear q2
 try clear q23
 try clear q234
 obtain ⟨x278_4, rfl, HA, HK4, HO_27, HO_276, HB⟩ := hrel
 cases gk with
 | zero => exact absurd HA.out (by simp [laws_FnRingsMoveOfAll.l0])
 | succ k4 =>
  have H := HA.out
  clear HA
  simp only [laws_FnRingsMoveOfAll.l0] at H
  by_cases c135 : x278_4 < (t201.length : Int)
  ·rw [if_pos c135] at H
   have c135b0 : decide (x278_4 < (t201.length : Int)) = true := decide_eq_true c135
   clear c135
   by_cases c136 : 0 ≤ x278_4
   ·rw [if_pos c136] at H
    have c136b0 : decide (0 ≤ x278_4) = true := decide_eq_true c136
    clear c136
    by_cases c137 : x278_4 < (t201.length : Int)
    ·rw [if_pos c137] at H
     have c137b0 : decide (x278_4 < (t201.length : Int)) = true := decide_eq_true c137
     clear c137
     replace H := Option.bind_eq_some_iff.mp H
     obtain ⟨⟨t236, t237⟩, A1380, H⟩ := H
     try dsimp +instances only at H
     replace H := H
     have A138 := Aside0.mk A1380
     clear A1380
     replace H := Option.bind_eq_some_iff.mp H
     obtain ⟨⟨t238, t239⟩, A1390, H⟩ := H
     try dsimp +instances only at H
     replace H := H
     have A139 := Aside0.mk A1390
     clear A1390
     replace H := Option.bind_eq_some_iff.mp H
     obtain ⟨⟨t240, t241⟩, A1400, H⟩ := H
     try dsimp +instances only at H
     replace H := H
     have A140 := Aside0.mk A1400
     clear A1400
     have HC141 := Aside0.mk H
     clear H
     have p235 : 0 ≤ (x278_4 : Int) := of_decide_eq_true (by first | (with_reducible assumption) | assumption)
     have q235 : x278_4 < (t201.length : Int) := of_decide_eq_true (by first | (with_reducible assumption) | assumption)
     obtain ⟨ad235, e235, hx235_0⟩ := Kd.at_int (Kd.R_reads' HO_276.out).2.2 x278_4 p235 q235
     cases e235
     replace p235 := eq_true p235
     replace q235 := eq_true q235
     go_upto_region 23 with (first | (go_at_call 17; (with_reducible refine (impl_MoveRing.calls a0 (rd t201 x278_4) t236 t237 _ A138.out).mono ?_); rintro e w142 ⟨rfl, hb⟩; have n0_ := Aside0.mk (Kd.R_below (by (with_reducible repeat (first | apply Kd.R_alloc | apply Kd.R_drewN | apply Kd.R_drew)); exact HO_27.out) hb); have n1_ := Aside0.mk (Kd.R_below (by (with_reducible repeat (first | apply Kd.R_alloc | apply Kd.R_drewN | apply Kd.R_drew)); exact HO_276.out) hb); have n2_ := Aside0.mk (below_step (by repeat (first | (with_reducible first | exact HB.out | apply below_alloc | apply pw_below_drewN | apply below_drew1) | exact HB.out)) hb); clear HO_27; clear HO_276; clear HB; have HO_27 := n0_; have HO_276 := n1_; have HB := n2_; clear n0_ n1_ n2_; (try clear hb); (try clear hb2); (try clear hk); (try clear hi)) | (go_at_call 17; (with_reducible refine (impl_MoveRing.calls t236 (rd t201 x278_4) t238 t239 _ A139.out).mono ?_); rintro e w143 ⟨rfl, hb⟩; have n0_ := Aside0.mk (Kd.R_below (by (with_reducible repeat (first | apply Kd.R_alloc | apply Kd.R_drewN | apply Kd.R_drew)); exact HO_27.out) hb); have n1_ := Aside0.mk (Kd.R_below (by (with_reducible repeat (first | apply Kd.R_alloc | apply Kd.R_drewN | apply Kd.R_drew)); exact HO_276.out) hb); have n2_ := Aside0.mk (below_step (by repeat (first | (with_reducible first | exact HB.out | apply below_alloc | apply pw_below_drewN | apply below_drew1) | exact HB.out)) hb); clear HO_27; clear HO_276; clear HB; have HO_27 := n0_; have HO_276 := n1_; have HB := n2_; clear n0_ n1_ n2_; (try clear hb); (try clear hb2); (try clear hk); (try clear hi)) | (go_at_call 6; (with_reducible refine (impl_NumberOfState.calls k4 t236 t240 t241 _ A140.out).mono ?_); rintro e w144 ⟨rfl, hb⟩; have n0_ := Aside0.mk (Kd.R_below (by (with_reducible repeat (first | apply Kd.R_alloc | apply Kd.R_drewN | apply Kd.R_drew)); exact HO_27.out) hb); have n1_ := Aside0.mk (Kd.R_below (by (with_reducible repeat (first | apply Kd.R_alloc | apply Kd.R_drewN | apply Kd.R_drew)); exact HO_276.out) hb); have n2_ := Aside0.mk (below_step (by repeat (first | (with_reducible first | exact HB.out | apply below_alloc | apply pw_below_drewN | apply below_drew1) | exact HB.out)) hb); clear HO_27; clear HO_276; clear HB; have HO_27 := n0_; have HO_276 := n1_; have HB := n2_; clear n0_ n1_ n2_; (try clear hb); (try clear hb2); (try clear hk); (try clear hi)))
     repeat (go_quiet (first | (go_at_call 17; (with_reducible refine (impl_MoveRing.calls a0 (rd t201 x278_4) t236 t237 _ A138.out).mono ?_); rintro e w142 ⟨rfl, hb⟩; have n0_ := Aside0.mk (Kd.R_below (by (with_reducible repeat (first | apply Kd.R_alloc | apply Kd.R_drewN | apply Kd.R_drew)); exact HO_27.out) hb); have n1_ := Aside0.mk (Kd.R_below (by (with_reducible repeat (first | apply Kd.R_alloc | apply Kd.R_drewN | apply Kd.R_drew)); exact HO_276.out) hb); have n2_ := Aside0.mk (below_step (by repeat (first | (with_reducible first | exact HB.out | apply below_alloc | apply pw_below_drewN | apply below_drew1) | exact HB.out)) hb); clear HO_27; clear HO_276; clear HB; have HO_27 := n0_; have HO_276 := n1_; have HB := n2_; clear n0_ n1_ n2_; (try clear hb); (try clear hb2); (try clear hk); (try clear hi)) | (go_at_call 17; (with_reducible refine (impl_MoveRing.calls t236 (rd t201 x278_4) t238 t239 _ A139.out).mono ?_); rintro e w143 ⟨rfl, hb⟩; have n0_ := Aside0.mk (Kd.R_below (by (with_reducible repeat (first | apply Kd.R_alloc | apply Kd.R_drewN | apply Kd.R_drew)); exact HO_27.out) hb); have n1_ := Aside0.mk (Kd.R_below (by (with_reducible repeat (first | apply Kd.R_alloc | apply Kd.R_drewN | apply Kd.R_drew)); exact HO_276.out) hb); have n2_ := Aside0.mk (below_step (by repeat (first | (with_reducible first | exact HB.out | apply below_alloc | apply pw_below_drewN | apply below_drew1) | exact HB.out)) hb); clear HO_27; clear HO_276; clear HB; have HO_27 := n0_; have HO_276 := n1_; have HB := n2_; clear n0_ n1_ n2_; (try clear hb); (try clear hb2); (try clear hk); (try clear hi)) | (go_at_call 6; (with_reducible refine (impl_NumberOfState.calls k4 t236 t240 t241 _ A140.out).mono ?_); rintro e w144 ⟨rfl, hb⟩; have n0_ := Aside0.mk (Kd.R_below (by (with_reducible repeat (first | apply Kd.R_alloc | apply Kd.R_drewN | apply Kd.R_drew)); exact HO_27.out) hb); have n1_ := Aside0.mk (Kd.R_below (by (with_reducible repeat (first | apply Kd.R_alloc | apply Kd.R_drewN | apply Kd.R_drew)); exact HO_276.out) hb); have n2_ := Aside0.mk (below_step (by repeat (first | (with_reducible first | exact HB.out | apply below_alloc | apply pw_below_drewN | apply below_drew1) | exact HB.out)) hb); clear HO_27; clear HO_276; clear HB; have HO_27 := n0_; have HO_276 := n1_; have HB := n2_; clear n0_ n1_ n2_; (try clear hb); (try clear hb2); (try clear hk); (try clear hi))); go_upto_region 23 with (first | (go_at_call 17; (with_reducible refine (impl_MoveRing.calls a0 (rd t201 x278_4) t236 t237 _ A138.out).mono ?_); rintro e w142 ⟨rfl, hb⟩; have n0_ := Aside0.mk (Kd.R_below (by (with_reducible repeat (first | apply Kd.R_alloc | apply Kd.R_drewN | apply Kd.R_drew)); exact HO_27.out) hb); have n1_ := Aside0.mk (Kd.R_below (by (with_reducible repeat (first | apply Kd.R_alloc | apply Kd.R_drewN | apply Kd.R_drew)); exact HO_276.out) hb); have n2_ := Aside0.mk (below_step (by repeat (first | (with_reducible first | exact HB.out | apply below_alloc | apply pw_below_drewN | apply below_drew1) | exact HB.out)) hb); clear HO_27; clear HO_276; clear HB; have HO_27 := n0_; have HO_276 := n1_; have HB := n2_; clear n0_ n1_ n2_; (try clear hb); (try clear hb2); (try clear hk); (try clear hi)) | (go_at_call 17; (with_reducible refine (impl_MoveRing.calls t236 (rd t201 x278_4) t238 t239 _ A139.out).mono ?_); rintro e w143 ⟨rfl, hb⟩; have n0_ := Aside0.mk (Kd.R_below (by (with_reducible repeat (first | apply Kd.R_alloc | apply Kd.R_drewN | apply Kd.R_drew)); exact HO_27.out) hb); have n1_ := Aside0.mk (Kd.R_below (by (with_reducible repeat (first | apply Kd.R_alloc | apply Kd.R_drewN | apply Kd.R_drew)); exact HO_276.out) hb); have n2_ := Aside0.mk (below_step (by repeat (first | (with_reducible first | exact HB.out | apply below_alloc | apply pw_below_drewN | apply below_drew1) | exact HB.out)) hb); clear HO_27; clear HO_276; clear HB; have HO_27 := n0_; have HO_276 := n1_; have HB := n2_; clear n0_ n1_ n2_; (try clear hb); (try clear hb2); (try clear hk); (try clear hi)) | (go_at_call 6; (with_reducible refine (impl_NumberOfState.calls k4 t236 t240 t241 _ A140.out).mono ?_); rintro e w144 ⟨rfl, hb⟩; have n0_ := Aside0.mk (Kd.R_below (by (with_reducible repeat (first | apply Kd.R_alloc | apply Kd.R_drewN | apply Kd.R_drew)); exact HO_27.out) hb); have n1_ := Aside0.mk (Kd.R_below (by (with_reducible repeat (first | apply Kd.R_alloc | apply Kd.R_drewN | apply Kd.R_drew)); exact HO_276.out) hb); have n2_ := Aside0.mk (below_step (by repeat (first | (with_reducible first | exact HB.out | apply below_alloc | apply pw_below_drewN | apply below_drew1) | exact HB.out)) hb); clear HO_27; clear HO_276; clear HB; have HO_27 := n0_; have HO_276 := n1_; have HB := n2_; clear n0_ n1_ n2_; (try clear hb); (try clear hb2); (try clear hk); (try clear hi))))
     (try simp only [Act.put, List.setIfInBounds_toArray, List.set_cons_zero, List.set_cons_succ])
     refine wp_cutF [o_,o_,o_,o_,o_,o_,o_,o_,o_,o_,o_,o_,o_,o_,o_,o_,o_,o_,o_,o_,o_,o_,o_,o_,o_,o_,o_,o_,o_,o_,o_,o_,o_,o_,o_,o_,o_,o_,o_,o_,o_,o_,o_,o_,o_,o_,o_,o_,o_,o_,o_,o_,o_,o_,o_,o_,o_,o_,o_,o_,o_,o_,o_,o_,o_,o_,o_,o_,o_,o_,o_,o_,o_,o_,o_,o_,o_,o_,o_,o_,o_,o_,o_,o_,o_,o_,o_,o_,o_,o_,o_,o_,o_,o_,o_,o_,o_,o_,o_,o_,o_,o_,o_,o_,o_,o_,o_,o_,o_,o_,o_,o_,o_,o_,o_,o_,o_,o_,o_,o_,o_,o_,o_,o_,o_,o_,o_,o_,o_,o_,o_,o_,o_,o_,o_,o_,o_,o_,o_,o_,o_,o_,o_,o_,o_,o_,o_,o_,o_,o_,o_,o_,o_,o_,o_,o_,o_,o_,o_,o_,o_,o_,o_,o_,o_,o_,o_,o_,o_,o_,o_,o_,o_,o_,o_,o_,o_,o_,o_,o_,o_,o_,o_,o_,o_,o_,o_,o_,o_,o_,o_,o_,o_,o_,o_,o_,o_,o_,o_,o_,o_,o_,o_,o_,o_,o_,o_,o_,o_,o_,o_,o_,o_,o_,o_,o_,o_,o_,o_,o_,o_,o_,o_,o_,o_,o_,o_,o_,o_,o_,o_,o_,o_,o_,o_,o_,o_,o_,o_,o_,o_,o_,o_,o_,o_,o_,o_,o_,o_,o_,o_,o_,o_,o_,o_,o_,o_,o_,o_,o_,o_,o_,o_,o_,o_,o_,o_,o_,o_,o_,o_,o_,o_,o_,o_,o_,o_,o_,o_,i_,i_,i_,i_,i_,i_,i_,i_,i_,i_,i_,i_,i_,i_,i_,i_,i_,i_,i_,i_,i_,i_,i_,i_,i_,i_,i_,i_,i_,i_,i_,i_,i_,i_,i_,i_,i_,i_,i_,i_,i_,i_,i_,o_,o_,i_,i_,i_,i_,i_,i_,i_,i_,i_,i_,i_,i_,i_,i_] (fun f_ wc => ∃ (kq : Nat) (x320_140 : Bool), (f_ 320) = .bool x320_140 ∧ Aside0 (laws_FnRingsMoveOfAll.j4 kq a0 a1 l2 a3 a4 a5 a6 t209 t217 t218 (rd t201 x278_4) t236 t201 (t201.length : Int) x278_4 x320_140 = some r) ∧ Aside0 (kq ≤ k4) ∧ Aside0 (Kd.R Kd.string 9 wc w.heap.size (fun _ => True) v220 t217) ∧ Aside0 (Kd.R (Kd.int .i64) 3 wc w.heap.size (fun _ => True) (.slice (some ad235) t201.length co134) t201) ∧ Aside0 (Below w.heap.size w wc)) ?rest ?first
     case first =>
      intro J_ K_ hJ_ hK_
      have H := HC141.out
      clear HC141
      by_cases c145 : t237 = true
      ·subst c145
       rw [if_pos rfl] at H
       have H1 := H
       clear H
       have H := H1
       clear H1
       by_cases c146 : t239 = true
       ·subst c146
        rw [if_pos rfl] at H
        have H1 := H
        clear H
        have H := H1
        clear H1
        by_cases c147 : t238.toList = a0.toList
        ·rw [if_pos c147] at H
         have c147b0 : (t238.toList == a0.toList) = true := beq_iff_eq.mpr c147
         have c147b1 : (t238.toList != a0.toList) = false := bne_eq_false_iff_eq.mpr c147
         (try (have c147n1 : (!(t238.toList == a0.toList)) = false := c147b1))
         clear c147
         (first | rw [c147b0] | (simp only [i64_w, i32_w]; rw [c147b0]) | skip)
         by_cases c148 : t241 = true
         ·subst c148
          rw [if_pos rfl] at H
          have H1 := H
          clear H
          have H := H1
          clear H1
          replace H := Option.bind_eq_some_iff.mp H
          obtain ⟨t242, A1490, H⟩ := H
          try dsimp +instances only at H
          replace H := H
          have A149 := Aside0.mk A1490
          clear A1490
          have H' := Aside0.mk H
          clear H
          go_wp2_with (first | (go_at_call 18; (with_reducible refine (laws_yAbs.calls (wrap64 (t240 - t209)) t242 _ A149.out).mono ?_); rintro e w' ⟨rfl, ⟨nd, rfl⟩⟩; (try first | exact ⟨rfl, _, World.drewN_drewN _ _ _⟩ | exact ⟨rfl, _, Eq.trans (World.drewN_drewN _ _ _) (congrArg (World.drewN _) (Nat.add_assoc _ _ _))⟩)))
          repeat (go_quiet (first | (go_at_call 18; (with_reducible refine (laws_yAbs.calls (wrap64 (t240 - t209)) t242 _ A149.out).mono ?_); rintro e w' ⟨rfl, ⟨nd, rfl⟩⟩; (try first | exact ⟨rfl, _, World.drewN_drewN _ _ _⟩ | exact ⟨rfl, _, Eq.trans (World.drewN_drewN _ _ _) (congrArg (World.drewN _) (Nat.add_assoc _ _ _))⟩))); try go_wp2_with (first | (go_at_call 18; (with_reducible refine (laws_yAbs.calls (wrap64 (t240 - t209)) t242 _ A149.out).mono ?_); rintro e w' ⟨rfl, ⟨nd, rfl⟩⟩; (try first | exact ⟨rfl, _, World.drewN_drewN _ _ _⟩ | exact ⟨rfl, _, Eq.trans (World.drewN_drewN _ _ _) (congrArg (World.drewN _) (Nat.add_assoc _ _ _))⟩))))
          refine Met.intro (hJ_ _ _ ?mg_ ?rel)
          case mg_ => kernel_rfl
          case rel => exact ⟨_, ((t242 != 1)), (by first | rfl | ((conv => lhs; whnf); first | rfl | (simp; done) | (simp [*]; done))), H', ⟨by have := HJ7.out; have := HJ20.out; have := HJ98.out; have := HK4.out; first | omega | exact Nat.le_refl _⟩, ⟨by (with_reducible repeat (first | apply Kd.R_alloc | apply Kd.R_drewN | apply Kd.R_drew)); exact HO_27.out⟩, ⟨by (with_reducible repeat (first | apply Kd.R_alloc | apply Kd.R_drewN | apply Kd.R_drew)); exact HO_276.out⟩, ⟨by repeat (first | (with_reducible first | exact HB.out | apply below_alloc | apply pw_below_drewN | apply below_drew1) | exact HB.out)⟩⟩
         ·replace c148 := Bool.eq_false_iff.mpr c148
          subst c148
          rw [if_neg (show ¬ (false = true) by decide)] at H
          have H1 := H
          clear H
          have H := H1
          clear H1
          have H' := Aside0.mk H
          clear H
          go_wp2
          repeat (go_quiet (fail); try go_wp2)
          refine Met.intro (hJ_ _ _ ?mg_ ?rel)
          case mg_ => kernel_rfl
          case rel => exact ⟨_, (true), (by first | rfl | ((conv => lhs; whnf); first | rfl | (simp; done) | (simp [*]; done))), H', ⟨by have := HJ7.out; have := HJ20.out; have := HJ98.out; have := HK4.out; first | omega | exact Nat.le_refl _⟩, ⟨by (with_reducible repeat (first | apply Kd.R_alloc | apply Kd.R_drewN | apply Kd.R_drew)); exact HO_27.out⟩, ⟨by (with_reducible repeat (first | apply Kd.R_alloc | apply Kd.R_drewN | apply Kd.R_drew)); exact HO_276.out⟩, ⟨by repeat (first | (with_reducible first | exact HB.out | apply below_alloc | apply pw_below_drewN | apply below_drew1) | exact HB.out)⟩⟩
        ·rw [if_neg c147] at H
         have c147b0 : (t238.toList == a0.toList) = false := beq_eq_false_iff_ne.mpr c147
         have c147b1 : (t238.toList != a0.toList) = true := bne_iff_ne.mpr c147
         (try (have c147n1 : (!(t238.toList == a0.toList)) = true := c147b1))
         (first | rw [c147b0] | (simp only [i64_w, i32_w]; rw [c147b0]) | skip)
         have H' := Aside0.mk H
         clear H
         go_wp2
         repeat (go_quiet (fail); try go_wp2)
         refine Met.intro (hJ_ _ _ ?mg_ ?rel)
         case mg_ => kernel_rfl
         case rel => exact ⟨_, (true), (by first | rfl | ((conv => lhs; whnf); first | rfl | (simp; done) | (simp [*]; done))), H', ⟨by have := HJ7.out; have := HJ20.out; have := HJ98.out; have := HK4.out; first | omega | exact Nat.le_refl _⟩, ⟨by (with_reducible repeat (first | apply Kd.R_alloc | apply Kd.R_drewN | apply Kd.R_drew)); exact HO_27.out⟩, ⟨by (with_reducible repeat (first | apply Kd.R_alloc | apply Kd.R_drewN | apply Kd.R_drew)); exact HO_276.out⟩, ⟨by repeat (first | (with_reducible first | exact HB.out | apply below_alloc | apply pw_below_drewN | apply below_drew1) | exact HB.out)⟩⟩
       ·replace c146 := Bool.eq_false_iff.mpr c146
        subst c146
        rw [if_neg (show ¬ (false = true) by decide)] at H
        have H1 := H
        clear H
        have H := H1
        clear H1
        have H' := Aside0.mk H
        clear H
        go_wp2
        repeat (go_quiet (fail); try go_wp2)
        refine Met.intro (hJ_ _ _ ?mg_ ?rel)
        case mg_ => kernel_rfl
        case rel => exact ⟨_, (true), (by first | rfl | ((conv => lhs; whnf); first | rfl | (simp; done) | (simp [*]; done))), H', ⟨by have := HJ7.out; have := HJ20.out; have := HJ98.out; have := HK4.out; first | omega | exact Nat.le_refl _⟩, ⟨by (with_reducible repeat (first | apply Kd.R_alloc | apply Kd.R_drewN | apply Kd.R_drew)); exact HO_27.out⟩, ⟨by (with_reducible repeat (first | apply Kd.R_alloc | apply Kd.R_drewN | apply Kd.R_drew)); exact HO_276.out⟩, ⟨by repeat (first | (with_reducible first | exact HB.out | apply below_alloc | apply pw_below_drewN | apply below_drew1) | exact HB.out)⟩⟩
      ·replace c145 := Bool.eq_false_iff.mpr c145
       subst c145
       rw [if_neg (show ¬ (false = true) by decide)] at H
       have H1 := H
       clear H
       have H := H1
       clear H1
       have H' := Aside0.mk H
       clear H
       go_wp2
       repeat (go_quiet (fail); try go_wp2)
       refine Met.intro (hJ_ _ _ ?mg_ ?rel)
       case mg_ => kernel_rfl
       case rel => exact ⟨_, (true), (by first | rfl | ((conv => lhs; whnf); first | rfl | (simp; done) | (simp [*]; done))), H', ⟨by have := HJ7.out; have := HJ20.out; have := HJ98.out; have := HK4.out; first | omega | exact Nat.le_refl _⟩, ⟨by (with_reducible repeat (first | apply Kd.R_alloc | apply Kd.R_drewN | apply Kd.R_drew)); exact HO_27.out⟩, ⟨by (with_reducible repeat (first | apply Kd.R_alloc | apply Kd.R_drewN | apply Kd.R_drew)); exact HO_276.out⟩, ⟨by repeat (first | (with_reducible first | exact HB.out | apply below_alloc | apply pw_below_drewN | apply below_drew1) | exact HB.out)⟩⟩
     case rest =>
      intro f_ wc hcut
      dsimp only [maskF] at hcut ⊢
      generalize f_ 320 = u320 at hcut ⊢
      repeat revert ‹_›
      intro HP0_ HP1_
      exact HP0_.out
    ·rw [if_neg c137] at H
     exact absurd H (by simp)
   ·rw [if_neg c136] at H
    exact absurd H (by simp)
  ·
   repeat revert ‹_›
   intro HP0_ HP1_
   exact HP1_.out

def laws_FnRingsMoveOfAll.c11 : PSigma fun P0_ : Prop => Hole P0_ → laws_FnRingsMoveOfAll.c10.1 := by
 refine' ⟨_, fun HP0_ => _⟩
 rotate_left 1
 intro k a0 a1 A2 c2 l2 a3 a4 a5 a6 r w HR2 HC2 _ _ _ _ kj7 HJ7 t201 t205 t206 A14 t209 t210 A15 t211 t212 A16 t213 t214 A17 t215 t216 A18 t217 t218 t219 A19 t222 t223 t224 A20 w22 w23 v207 w24 _ w25 nd w26 v220 w27 v225 HO221 HO226 _ _ _ kj20 HJ20 _ _ J_ K_ hK_ A13 t232 t233 A98 w100 _ _ _ _ _ _ kj98 HJ98 co134 _ _ wr u14 u36 u37 u38 u39 u40 u41 u42 u43 u279 u280 u281 u282 u283 u284 u285 u286 u287 u288 u289 u290 u291 u292 u293 u294 u295 u296 u297 u298 u299 u300 u301 u302 u303 u304 u305 u306 u307 u308 u309 u310 u311 u312 u313 u314 u315 u316 u317 u318 u319 _ u321 u322 u323 u324 u325 u326 u327 u328 u329 u330 u331 u332 u333 u334 u335 u336 u337 _ _ x278_4 k4 _ HK4 c135b0 c136b0 c137b0 t236 t237 A138 t238 t239 A139 t240 t241 A140 HC141 ad235 hx235_0 HO204 HO208 hJ_ _ HO_15 _ p235 q235 _ _ w142 w143 w144 HO_27 HO_276 HB _ _ _ _ f_ wc u320 hcut
 clear HC141
 try clear c1
 try clear c2
 try clear p2
 try clear q2
 try clear hx2
 try clear qi2
 try clear c3
 try clear c4
 try clear c5
 try clear c6
 try clear p6
 try clear c9
 try clear c9b0
 try clear c9b1
 try clear c10
 try clear c10b0
 try clear c10b1
 try clear c11
 try clear c11b0
 try clear c11b1
 try clear c12
 try clear c13
 try clear c14
 try clear p23
 try clear q23
 try clear hx23
 try clear qi23
 try clear c28
 try clear c28b0
 try clear c28b1
 try clear c28b2
 try clear c30
 try clear c31
 try clear c31b0
 try clear c31b1
 try clear c31b2
 try clear c34
 try clear c34b0
 try clear c34b1
 try clear c35
 try clear c35b0
 try clear c35b1
 try clear c35b2
 try clear c38
 try clear c38b0
 try clear c38b1
 try clear c39
 try clear c39b0
 try clear c39b1
 try clear c39b2
 try clear c43
 try clear c44
 try clear c44b0
 try clear c44b1
 try clear c46
 try clear c46b0
 try clear c46b1
 try clear c46b2
 try clear c54
 try clear c54b0
 try clear c54b1
 try clear c54b2
 try clear c61
 try clear c61b0
 try clear c61b1
 try clear c61b2
 try clear p64
 try clear c68
 try clear c68b0
 try clear c68b1
 try clear c68b2
 try clear c95
 try clear c97
 try clear c101
 try clear c101b0
 try clear c101b1
 try clear c103
 try clear c103b0
 try clear c103b1
 try clear c105
 try clear c105b0
 try clear c105b1
 try clear c106
 try clear c106b0
 try clear c106b1
 try clear c107
 try clear c107b0
 try clear c110
 try clear c110b0
 try clear c112
 try clear c113
 try clear c113b0
 try clear c113b1
 try clear c114
 try clear c114b0
 try clear c114b1
 try clear c115
 try clear c115b0
 try clear c115b1
 try clear c115b2
 try clear c117
 try clear c117b0
 try clear c117b1
 try clear c122
 try clear c122b0
 try clear c123
 try clear c123b0
 try clear c123b1
 try clear c123b2
 try clear c125
 try clear c125b0
 try clear c125b1
 try clear c133
 try clear c135
 try clear c135b0
 try clear c136
 try clear c136b0
 try clear c137
 try clear c137b0
 try clear c145
 try clear c146
 try clear c147
 try clear c147b0
 try clear c147b1
 try clear c148
 try clear hx234_0
 try clear hx235_0
 try clear p2
 try clear p23
 try clear p234
 try clear p235
 try clear p6
 try clear p64
 try clear q2
 try clear q23
 try clear q234
 try clear q235
 obtain ⟨kq, x320_140, rfl, HA, HJ140, HO_27, HO_276, HB⟩ := hcut
 cases kq with
 | zero => exact absurd HA.out (by simp [laws_FnRingsMoveOfAll.j4])
 | succ kj140 =>
  have H := HA.out
  clear HA
  simp only [laws_FnRingsMoveOfAll.j4] at H
  by_cases c150 : x320_140 = true
  ·subst c150
   rw [if_pos rfl] at H
   have H1 := H
   clear H
   have H := H1
   clear H1
   obtain rfl := Option.some.inj H
   go_wp2
   repeat (go_quiet (fail); try go_wp2)
   go_ret
   exact ⟨by first | rfl | (simp [errW_none, errW_some] <;> rfl) | (simp [*, errW_none, errW_some] <;> rfl), by repeat (first | (with_reducible first | exact HB.out | apply below_alloc | apply pw_below_drewN | apply below_drew1) | exact HB.out)⟩
  ·replace c150 := Bool.eq_false_iff.mpr c150
   subst c150
   rw [if_neg (show ¬ (false = true) by decide)] at H
   have H1 := H
   clear H
   have H := H1
   clear H1
   have H' := Aside0.mk H
   clear H
   have HBI := Aside0.mk (HB.out.size)
   go_wp2
   repeat (go_quiet (fail); try go_wp2)
   go_loopg [] kj140 (fun kq w' => ∃ (x322_6 : Nat), Aside0 (laws_FnRingsMoveOfAll.l1 kq a0 a1 l2 a3 a4 a5 a6 t209 t217 t218 (rd t201 x278_4) t236 t201 (t201.length : Int) x278_4 a0 x322_6 = some r) ∧ Aside0 (kq ≤ kj140) ∧ Aside0 (Kd.R Kd.string 9 w' w.heap.size (fun k_ => True ∧ k_ ≠ wc.heap.size) v220 t217) ∧ Aside0 (Kd.R (Kd.int .i64) 3 w' w.heap.size (fun k_ => True ∧ k_ ≠ wc.heap.size) (.slice (some ad235) t201.length co134) t201) ∧ Aside0 (Below w.heap.size w w') ∧ Aside0 (w'.heap[wc.heap.size]? = some (.stringIter a0 x322_6)))
   case atStart => exact ⟨0, H', ⟨Nat.le_refl _⟩, ⟨by apply Kd.R_alloc; exact Kd.R_elderB (by (with_reducible repeat (first | apply Kd.R_alloc | apply Kd.R_drewN | apply Kd.R_drew)); exact HO_27.out) _ (Nat.le_refl _)⟩, ⟨by apply Kd.R_alloc; exact Kd.R_elderB (by (with_reducible repeat (first | apply Kd.R_alloc | apply Kd.R_drewN | apply Kd.R_drew)); exact HO_276.out) _ (Nat.le_refl _)⟩, ⟨below_alloc HB.out _⟩, ⟨World.iter_heap wc a0 0⟩⟩
   case round =>
    repeat revert ‹_›
    intro HP0_
    exact HP0_.out

theorem laws_FnRingsMoveOfAll.c12 : laws_FnRingsMoveOfAll.c11.1 := by
 intro k a0 a1 A2 c2 l2 a3 a4 a5 a6 r w HR2 HC2 _ _ _ _ kj7 HJ7 t201 t205 t206 A14 t209 t210 A15 t211 t212 A16 t213 t214 A17 t215 t216 A18 t217 t218 t219 A19 t222 t223 t224 A20 w22 w23 v207 w24 _ w25 nd w26 v220 w27 v225 HO221 HO226 _ _ _ kj20 HJ20 _ _ J_ K_ hK_ A13 t232 t233 A98 w100 _ _ _ _ _ _ kj98 HJ98 co134 _ _ _ _ u36 u37 u38 u39 u40 u41 u42 _ u279 u280 u281 u282 u283 u284 u285 u286 u287 u288 u289 u290 u291 u292 u293 u294 u295 u296 u297 u298 u299 u300 u301 u302 u303 u304 u305 u306 u307 u308 u309 u310 u311 u312 u313 u314 u315 u316 u317 u318 u319 _ u321 u322 _ _ _ _ _ _ _ _ _ _ _ _ _ _ u337 _ _ x278_4 k4 _ HK4 t236 t237 A138 t238 t239 A139 t240 t241 A140 ad235 HO204 HO208 hJ_ _ HO_15 _ _ _ w142 w143 w144 _ _ _ f_ wc HO_27 HO_276 HB kj140 HJ140 H' HBI gk wr u14 u43 u323 u324 u325 u326 u327 u328 u329 u330 u331 u332 u333 u334 u335 u336 hrel _ _ _ _
 clear H'
 try clear c1
 try clear c2
 try clear p2
 try clear q2
 try clear hx2
 try clear qi2
 try clear c3
 try clear c4
 try clear c5
 try clear c6
 try clear p6
 try clear c9
 try clear c9b0
 try clear c9b1
 try clear c10
 try clear c10b0
 try clear c10b1
 try clear c11
 try clear c11b0
 try clear c11b1
 try clear c12
 try clear c13
 try clear c14
 try clear c15
 try clear p23
 try clear q23
 try clear hx23
 try clear qi23
 try clear c28
 try clear c28b0
 try clear c28b1
 try clear c28b2
 try clear c30
 try clear c31
 try clear c31b0
 try clear c31b1
 try clear c31b2
 try clear c34
 try clear c34b0
 try clear c34b1
 try clear c35
 try clear c35b0
 try clear c35b1
 try clear c35b2
 try clear c38
 try clear c38b0
 try clear c38b1
 try clear c39
 try clear c39b0
 try clear c39b1
 try clear c39b2
 try clear c43
 try clear c44
 try clear c44b0
 try clear c44b1
 try clear c46
 try clear c46b0
 try clear c46b1
 try clear c46b2
 try clear c54
 try clear c54b0
 try clear c54b1
 try clear c54b2
 try clear c61
 try clear c61b0
 try clear c61b1
 try clear c61b2
 try clear p64
 try clear c68
 try clear c68b0
 try clear c68b1
 try clear c68b2
 try clear c95
 try clear c97
 try clear c101
 try clear c101b0
 try clear c101b1
 try clear c103
 try clear c103b0
 try clear c103b1
 try clear c105
 try clear c105b0
 try clear c105b1
 try clear c106
 try clear c106b0
 try clear c106b1
 try clear c107
 try clear c107b0
 try clear c110
 try clear c110b0
 try clear c112
 try clear c113
 try clear c113b0
 try clear c113b1
 try clear c114
 try clear c114b0
 try clear c114b1
 try clear c115
 try clear c115b0
 try clear c115b1
 try clear c115b2
 try clear c117
 try clear c117b0
 try clear c117b1
 try clear c122
 try clear c122b0
 try clear c123
 try clear c123b0
 try clear c123b1
 try clear c123b2
 try clear c125
 try clear c125b0
 try clear c125b1
 try clear c133
 try clear c135
 try clear c135b0
 try clear c136
 try clear c136b0
 try clear c137
 try clear c137b0
 try clear c145
 try clear c146
 try clear c147
 try clear c147b0
 try clear c147b1
 try clear c148
 try clear c150
 try clear hx234_0
 try clear hx235_0
 try clear p2
 try clear p23
 try clear p234
 try clear p235
 try clear p6
 try clear p64
 try clear q2
 try clear q23
 try clear q234
 try clear q235
 obtain ⟨x322_6, HA, HK6, HO_27, HO_276, HB, HIT⟩ := hrel
 cases gk with
 | zero => exact absurd HA.out (by simp [laws_FnRingsMoveOfAll.l1])
 | succ k6 =>
  have H := HA.out
  clear HA
  simp only [laws_FnRingsMoveOfAll.l1] at H
  by_cases c151 : (x322_6 : Int) < (a0.size : Int)
  ·rw [if_pos c151] at H
   have c151b0 : decide ((x322_6 : Int) < (a0.size : Int)) = true := decide_eq_true c151
   clear c151
   by_cases c152 : 0 ≤ (x322_6 : Int)
   ·rw [if_pos c152] at H
    have c152b0 : decide (0 ≤ (x322_6 : Int)) = true := decide_eq_true c152
    clear c152
    by_cases cA : bt a0 (x322_6 : Int) < 128
    case neg => rw [if_neg cA] at H; exact absurd H (by simp)
    rw [if_pos cA] at H
    have hpn_ : x322_6 < a0.size := by have h_ := of_decide_eq_true c151b0; omega
    have han_ : (a0[x322_6]'hpn_).toNat < 128 := by have h_ : ((a0[x322_6]'hpn_).toNat : Int) = bt a0 (x322_6 : Int) := (by have h2_ := bt_at a0 (x322_6 : Int) (by simpa using hpn_); simpa using h2_); omega
    clear cA
    have hnx : ∀ ty, (Instr.next (.pointer (some ⟨wc.heap.size, 0, none⟩)) true ty).run Tryd.prog wr = _ := fun ty => Lib.run_next_ascii_at wr wc.heap.size a0 x322_6 ty HIT.out hpn_ han_
    have m0_ := Aside0.mk (Lib.iterAt_heap wr wc.heap.size a0 x322_6 (x322_6 + 1) HIT.out)
    have m1_ := Aside0.mk (Lib.below_iterAt HB.out HBI.out a0 (x322_6 + 1))
    have r0_ := Aside0.mk (Kd.R_move HO_27.out (fun k_ hk_ => Lib.iterAt_other wr wc.heap.size k_ a0 (x322_6 + 1) hk_.2))
    have r1_ := Aside0.mk (Kd.R_move HO_276.out (fun k_ hk_ => Lib.iterAt_other wr wc.heap.size k_ a0 (x322_6 + 1) hk_.2))
    clear HIT HB HO_27 HO_276
    have HIT := m0_
    have HB := m1_
    have HO_27 := r0_
    have HO_276 := r1_
    clear m0_ m1_ r0_ r1_
    generalize wr.iterAt wc.heap.size a0 (x322_6 + 1) = W2 at HIT HB HO_27 HO_276 hnx ⊢
    by_cases c153 : (x322_6 : Int) < (t236.size : Int)
    ·rw [if_pos c153] at H
     have c153b0 : decide ((x322_6 : Int) < (t236.size : Int)) = true := decide_eq_true c153
     clear c153
     by_cases c155 : (x322_6 : Int) < (a0.size : Int)
     ·rw [if_pos c155] at H
      have c155b0 : decide ((x322_6 : Int) < (a0.size : Int)) = true := decide_eq_true c155
      clear c155
      by_cases c157 : (((bt t236 (x322_6 : Int)) != (bt a0 (x322_6 : Int))) != ((x322_6 : Int) == (rd t201 x278_4))) = true
      ·rw [if_pos c157] at H
       have c157b0 : (((bt t236 (x322_6 : Int)) != (bt a0 (x322_6 : Int))) != ((x322_6 : Int) == (rd t201 x278_4))) = true := c157
       (try (have c157b1 : decide (((bt t236 (x322_6 : Int)) != (bt a0 (x322_6 : Int))) = ((x322_6 : Int) == (rd t201 x278_4))) = false := by simpa using c157))
       (try (have c157b2 : (((bt t236 (x322_6 : Int)) != (bt a0 (x322_6 : Int))) == ((x322_6 : Int) == (rd t201 x278_4))) = false := by simpa using c157))
       (try (have c157b3 : ¬ (((bt t236 (x322_6 : Int)) != (bt a0 (x322_6 : Int))) = ((x322_6 : Int) == (rd t201 x278_4))) := by simpa using c157))
       clear c157
       obtain rfl := Option.some.inj H
       have p154 : 0 ≤ (x322_6 : Int) := of_decide_eq_true (by first | (with_reducible assumption) | assumption)
       have q154 : (x322_6 : Int) < (t236.size : Int) := of_decide_eq_true (by first | (with_reducible assumption) | assumption)
       have hx154 := bt_at t236 (x322_6 : Int)
       have hx154p_ : x322_6 < t236.size := by omega
       have hx154n_ := hx154
       simp only [Int.toNat_natCast] at hx154n_
       replace p154 := eq_true p154
       replace q154 := eq_true q154
       have p156 : 0 ≤ (x322_6 : Int) := of_decide_eq_true (by first | (with_reducible assumption) | assumption)
       have q156 : (x322_6 : Int) < (a0.size : Int) := of_decide_eq_true (by first | (with_reducible assumption) | assumption)
       have hx156 := bt_at a0 (x322_6 : Int)
       have hx156p_ : x322_6 < a0.size := by omega
       have hx156n_ := hx156
       simp only [Int.toNat_natCast] at hx156n_
       replace p156 := eq_true p156
       replace q156 := eq_true q156
       go_wp2
       repeat (go_quiet (fail); try go_wp2)
       go_ret
       exact ⟨by first | rfl | (simp [errW_none, errW_some] <;> rfl) | (simp [*, errW_none, errW_some] <;> rfl), by repeat (first | (with_reducible first | exact HB.out | apply below_alloc | apply pw_below_drewN | apply below_drew1) | exact HB.out)⟩
      ·rw [if_neg c157] at H
       have c157b0 : (((bt t236 (x322_6 : Int)) != (bt a0 (x322_6 : Int))) != ((x322_6 : Int) == (rd t201 x278_4))) = false := by simpa using c157
       (try (have c157b1 : decide (((bt t236 (x322_6 : Int)) != (bt a0 (x322_6 : Int))) = ((x322_6 : Int) == (rd t201 x278_4))) = true := by simpa using c157))
       (try (have c157b2 : (((bt t236 (x322_6 : Int)) != (bt a0 (x322_6 : Int))) == ((x322_6 : Int) == (rd t201 x278_4))) = true := by simpa using c157))
       clear c157
       have H' := Aside0.mk H
       clear H
       have p154 : 0 ≤ (x322_6 : Int) := of_decide_eq_true (by first | (with_reducible assumption) | assumption)
       have q154 : (x322_6 : Int) < (t236.size : Int) := of_decide_eq_true (by first | (with_reducible assumption) | assumption)
       have hx154 := bt_at t236 (x322_6 : Int)
       have hx154p_ : x322_6 < t236.size := by omega
       have hx154n_ := hx154
       simp only [Int.toNat_natCast] at hx154n_
       replace p154 := eq_true p154
       replace q154 := eq_true q154
       have p156 : 0 ≤ (x322_6 : Int) := of_decide_eq_true (by first | (with_reducible assumption) | assumption)
       have q156 : (x322_6 : Int) < (a0.size : Int) := of_decide_eq_true (by first | (with_reducible assumption) | assumption)
       have hx156 := bt_at a0 (x322_6 : Int)
       have hx156p_ : x322_6 < a0.size := by omega
       have hx156n_ := hx156
       simp only [Int.toNat_natCast] at hx156n_
       replace p156 := eq_true p156
       replace q156 := eq_true q156
       go_wp2
       repeat (go_quiet (fail); try go_wp2)
       go_roundg k6
       case measure => have := HJ7.out; have := HJ20.out; have := HJ98.out; have := HK4.out; have := HJ140.out; have := HK6.out; omega
       case rel => exact ⟨x322_6 + 1, H', ⟨by have := HJ7.out; have := HJ20.out; have := HJ98.out; have := HK4.out; have := HJ140.out; have := HK6.out; omega⟩, ⟨by (with_reducible repeat (first | apply Kd.R_alloc | apply Kd.R_drewN | apply Kd.R_drew)); exact HO_27.out⟩, ⟨by (with_reducible repeat (first | apply Kd.R_alloc | apply Kd.R_drewN | apply Kd.R_drew)); exact HO_276.out⟩, ⟨by repeat (first | (with_reducible first | exact HB.out | apply below_alloc | apply pw_below_drewN | apply below_drew1) | exact HB.out)⟩, ⟨HIT.out⟩⟩
     ·rw [if_neg c155] at H
      exact absurd H (by simp)
    ·rw [if_neg c153] at H
     exact absurd H (by simp)
   ·rw [if_neg c152] at H
    exact absurd H (by simp)
  ·rw [if_neg c151] at H
   have c151b0 : decide ((x322_6 : Int) < (a0.size : Int)) = false := decide_eq_false c151
   clear c151
   have hpn_ : ¬ x322_6 < a0.size := by have h_ := of_decide_eq_false c151b0; omega
   have hnx : ∀ ty, (Instr.next (.pointer (some ⟨wc.heap.size, 0, none⟩)) true ty).run Tryd.prog wr = _ := fun ty => Lib.run_next_end_at wr wc.heap.size a0 x322_6 ty HIT.out hpn_
   have r0_ := Aside0.mk (Kd.R_mono HO_27.out (fun _ hk_ => hk_.1))
   clear HO_27
   have HO_27 := r0_
   clear r0_
   have r1_ := Aside0.mk (Kd.R_mono HO_276.out (fun _ hk_ => hk_.1))
   clear HO_276
   have HO_276 := r1_
   clear r1_
   have H' := Aside0.mk H
   clear H
   go_wp2
   repeat (go_quiet (fail); try go_wp2)
   go_roundg k6
   case measure => have := HJ7.out; have := HJ20.out; have := HJ98.out; have := HK4.out; have := HJ140.out; have := HK6.out; omega
   case rel => exact ⟨(wrap64 (x278_4 + 1)), (by first | rfl | ((conv => lhs; whnf); first | rfl | (simp; done) | (simp [*]; done))), H', ⟨by have := HJ7.out; have := HJ20.out; have := HJ98.out; have := HK4.out; have := HJ140.out; have := HK6.out; omega⟩, ⟨by (with_reducible repeat (first | apply Kd.R_alloc | apply Kd.R_drewN | apply Kd.R_drew)); exact HO_27.out⟩, ⟨by (with_reducible repeat (first | apply Kd.R_alloc | apply Kd.R_drewN | apply Kd.R_drew)); exact HO_276.out⟩, ⟨by repeat (first | (with_reducible first | exact HB.out | apply below_alloc | apply pw_below_drewN | apply below_drew1) | exact HB.out)⟩⟩

def laws_FnRingsMoveOfAll.c13 : PSigma fun P0_ : Prop => Hole P0_ → laws_FnRingsMoveOfAll.c10.2.1 := by
 refine' ⟨_, fun HP0_ => _⟩
 rotate_left 1
 intro k a0 a1 A2 c2 l2 a3 a4 a5 a6 r w HR2 HC2 _ _ _ _ kj7 HJ7 t201 t205 t206 A14 t209 t210 A15 t211 t212 A16 t213 t214 A17 t215 t216 A18 t217 t218 t219 A19 t222 t223 t224 A20 w22 w23 v207 w24 _ w25 nd w26 v220 w27 v225 HO221 HO226 _ _ _ kj20 HJ20 _ _ J_ K_ hK_ A13 t232 t233 A98 w100 _ _ f_ wc _ _ kj98 HJ98 Ao134 co134 HO204 HO208 hJ_ _ HO_15 _ _ wr u14 u36 u37 u38 u39 u40 u41 u42 u43 u279 u280 u281 u282 u283 u284 u285 u286 u287 u288 u289 u290 u291 u292 u293 u294 u295 u296 u297 u298 u299 u300 u301 u302 u303 u304 u305 u306 u307 u308 u309 u310 u311 u312 u313 u314 u315 u316 u317 u318 u319 u320 u321 u322 u323 u324 u325 u326 u327 u328 u329 u330 u331 u332 u333 u334 u335 u336 u337 _ _ _ x278_4 HO_27 HO_276 HB k4 _ HK4 H c135
 focus
  rw [if_neg c135] at H
  have c135b0 : decide (x278_4 < (t201.length : Int)) = false := decide_eq_false c135
  clear c135
  have H' := Aside0.mk H
  clear H
  obtain ⟨Ao158, co158, eo158⟩ := Kd.R_slice HO_27.out
  subst eo158
  go_wp2
  repeat (go_quiet (fail); try go_wp2)
  go_loopg [340] k4 (fun kq v340 w' => ∃ (x340_5 : Int), v340 = .int .i64 x340_5 ∧ Aside0 (laws_FnRingsMoveOfAll.l2 kq a0 a1 l2 a3 a4 a5 a6 t218 t217 (t217.length : Int) x340_5 = some r) ∧ Aside0 (kq ≤ k4) ∧ Aside0 (Kd.R Kd.string 9 w' w.heap.size (fun _ => True) (.slice Ao158 t217.length co158) t217) ∧ Aside0 (Below w.heap.size w w'))
  case atStart => exact ⟨(0), (by first | rfl | (simp; done) | (simp [*]; done)), H', ⟨Nat.le_refl _⟩, ⟨by (with_reducible repeat (first | apply Kd.R_alloc | apply Kd.R_drewN | apply Kd.R_drew)); exact HO_27.out⟩, ⟨by repeat (first | (with_reducible first | exact HB.out | apply below_alloc | apply pw_below_drewN | apply below_drew1) | exact HB.out)⟩⟩
  case round =>
   repeat revert ‹_›
   intro HP0_
   exact HP0_.out

end Go.Proofs.YtahdlpadcbigaaaDoor.A
