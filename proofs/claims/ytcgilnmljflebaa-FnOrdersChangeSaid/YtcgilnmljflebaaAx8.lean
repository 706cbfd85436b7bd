-- written by a program of this session's over the kit's print (xp.py)
import Derived.Test.YtcgilnmljflebaaAx0
import Derived.Test.YtcgilnmljflebaaAx1
import Derived.Test.YtcgilnmljflebaaAx7
-- halved
namespace Go.Proofs.Ytcgilnmljflebaa.A
-- slim
set_option maxHeartbeats 8000000
set_option maxRecDepth 100000
open Go.RowKit Go.Proofs.YtcgilnmljflebaaW.PrintWords Go.Proofs.YtcgilnmljflebaaW.PrintLast Go.Proofs.YtcgilnmljflebaaW.PrintMore
attribute [local go_sem] max2_int min2_int max_two min_two max_three min_three max_four min_four   -- for this text's walks alone
set_option linter.unusedVariables false
set_option linter.unusedSimpArgs false
def spec_SwappedAt.f (k : Nat) (a0 : Int) (a1 : Int) : Option (List Int × Bool) := (spec_l1In.f a0 1 10).bind fun t341 => (if t341 = true then ((spec_nuLists.f k a0).bind fun t342 => ((spec_l1In.f a1 0 (wrap64 (t342 - 1))).bind fun t343 => (if t343 = true then ((spec_nuSwapped.f k a0 a1).bind fun t344 => (some (t344, true))) else (some (([] : List Int), false))))) else (some (([] : List Int), false)))
theorem spec_SwappedAt.calls (k : Nat) (a0 : Int) (a1 : Int) (r1 : List Int) (r2 : Bool) (w : World) (h : spec_SwappedAt.f k a0 a1 = some (r1, r2)) :
  Calls Try.prog 23 #[.int .i64 a0, .int .i64 a1] w fun e w' => ∃ v0_ : Value, e = .returned (.tuple #[v0_, .bool r2]) ∧ Kd.R (Kd.int .i64) 3 w' w.heap.size (fun _ => True) v0_ r1 ∧ Below w.heap.size w w' := by
 have HB := Aside0.mk (Below.refl w.heap.size w)
 unfold spec_SwappedAt.f at h
 have H := h
 clear h
 replace H := Option.bind_eq_some_iff.mp H
 obtain ⟨t341, A30, H⟩ := H
 try dsimp +instances only at H
 replace H := H
 have A3 := Aside0.mk A30
 clear A30
 by_cases c4 : t341 = true
 ·subst c4
  rw [if_pos rfl] at H
  have H1 := H
  clear H
  have H := H1
  clear H1
  replace H := Option.bind_eq_some_iff.mp H
  obtain ⟨t342, A50, H⟩ := H
  try dsimp +instances only at H
  replace H := H
  have A5 := Aside0.mk A50
  clear A50
  replace H := Option.bind_eq_some_iff.mp H
  obtain ⟨t343, A60, H⟩ := H
  try dsimp +instances only at H
  replace H := H
  have A6 := Aside0.mk A60
  clear A60
  by_cases c7 : t343 = true
  ·subst c7
   rw [if_pos rfl] at H
   have H1 := H
   clear H
   have H := H1
   clear H1
   replace H := Option.bind_eq_some_iff.mp H
   obtain ⟨t344, A80, H⟩ := H
   try dsimp +instances only at H
   replace H := H
   have A8 := Aside0.mk A80
   clear A80
   simp only [Option.some.injEq, Prod.mk.injEq] at H
   obtain ⟨rfl, rfl⟩ := H
   go_enter Try.func23, Try.ntmps23
   go_wp2_with (first | ((with_reducible refine gate_callee (f := 42) rfl ?_); refine goesL_ (some 7) rfl rfl Try.func42 (by kernel_rfl) rfl #[.int .i64 a0, .int .i64 1, .int .i64 10] rfl (by (try simp only [List.map_toArray, List.map_cons, List.map_nil]); rfl) ?_; (with_reducible refine (spec_l1In.calls a0 1 10 true _ A3.out).mono ?_); rintro e w' ⟨rfl, ⟨nd, rfl⟩⟩; refine ⟨_, rfl, ?_⟩) | (go_at_call 56; (with_reducible refine (spec_nuLists.calls k a0 t342 _ A5.out).mono ?_); rintro e w' ⟨rfl, ⟨nd, rfl⟩⟩) | (go_at_call 42; (with_reducible refine (spec_l1In.calls a1 0 (wrap64 (t342 - 1)) true _ A6.out).mono ?_); rintro e w' ⟨rfl, ⟨nd, rfl⟩⟩) | ((with_reducible refine gate_callee (f := 59) rfl ?_); refine goesL_ (some 19) rfl rfl Try.func59 (by kernel_rfl) rfl #[.int .i64 a0, .int .i64 a1] rfl (by (try simp only [List.map_toArray, List.map_cons, List.map_nil]); rfl) ?_; (with_reducible refine (spec_nuSwapped.calls k a0 a1 t344 _ A8.out).mono ?_); rintro e w9 ⟨v345, rfl, ho0, hb⟩; refine ⟨_, rfl, ?_⟩; have n0_ := Aside0.mk (Kd.R_lower ho0 (below_size (by (apply pw_below_drewN; exact HB.out)))); have n1_ := Aside0.mk (below_step (by (apply pw_below_drewN; exact HB.out)) hb); clear HB; have HO346 := n0_; have HB := n1_; clear n0_ n1_; clear hb; clear ho0))
   go_ret2
   exact ⟨_, by rfl, HO346.out, HB.out⟩
  ·replace c7 := Bool.eq_false_iff.mpr c7
   subst c7
   rw [if_neg (show ¬ (false = true) by decide)] at H
   have H1 := H
   clear H
   have H := H1
   clear H1
   simp only [Option.some.injEq, Prod.mk.injEq] at H
   obtain ⟨rfl, rfl⟩ := H
   go_enter Try.func23, Try.ntmps23
   go_wp2_with (first | ((with_reducible refine gate_callee (f := 42) rfl ?_); refine goesL_ (some 7) rfl rfl Try.func42 (by kernel_rfl) rfl #[.int .i64 a0, .int .i64 1, .int .i64 10] rfl (by (try simp only [List.map_toArray, List.map_cons, List.map_nil]); rfl) ?_; (with_reducible refine (spec_l1In.calls a0 1 10 true _ A3.out).mono ?_); rintro e w' ⟨rfl, ⟨nd, rfl⟩⟩; refine ⟨_, rfl, ?_⟩) | (go_at_call 56; (with_reducible refine (spec_nuLists.calls k a0 t342 _ A5.out).mono ?_); rintro e w' ⟨rfl, ⟨nd, rfl⟩⟩) | (go_at_call 42; (with_reducible refine (spec_l1In.calls a1 0 (wrap64 (t342 - 1)) false _ A6.out).mono ?_); rintro e w' ⟨rfl, ⟨nd, rfl⟩⟩))
   go_ret2
   exact ⟨_, by rfl, by exact Kd.R_nil _ _ _ _ _, by (apply pw_below_drewN; exact HB.out)⟩
 ·replace c4 := Bool.eq_false_iff.mpr c4
  subst c4
  rw [if_neg (show ¬ (false = true) by decide)] at H
  have H1 := H
  clear H
  have H := H1
  clear H1
  simp only [Option.some.injEq, Prod.mk.injEq] at H
  obtain ⟨rfl, rfl⟩ := H
  go_enter Try.func23, Try.ntmps23
  go_wp2_with (first | ((with_reducible refine gate_callee (f := 42) rfl ?_); refine goesL_ (some 7) rfl rfl Try.func42 (by kernel_rfl) rfl #[.int .i64 a0, .int .i64 1, .int .i64 10] rfl (by (try simp only [List.map_toArray, List.map_cons, List.map_nil]); rfl) ?_; (with_reducible refine (spec_l1In.calls a0 1 10 false _ A3.out).mono ?_); rintro e w' ⟨rfl, ⟨nd, rfl⟩⟩; refine ⟨_, rfl, ?_⟩))
  go_ret2
  exact ⟨_, by rfl, by exact Kd.R_nil _ _ _ _ _, by (apply pw_below_drewN; exact HB.out)⟩
mutual
def impl_SwapPlace.j0 : Nat → Int → Int → Bool → Option (Int × Bool)
 | 0, _, _, _ => none
 | k + 1, x0, x1, x19 => if x19 = true then (some (0, false)) else ((impl_swapped.f k x0 x1).bind fun t349 => ((impl_swapped.f k x0 (wrap64 (x1 + 1))).bind fun t352 => (impl_SwapPlace.l0 k t349 t352 (t349.length : Int) 0)))
def impl_SwapPlace.l0 : Nat → List Int → List Int → Int → Int → Option (Int × Bool)
 | 0, _, _, _, _ => none
 | k + 1, x6, x7, x28, x29 => if x29 < x28 then (if 0 ≤ x29 then (if x29 < (x6.length : Int) then (if x29 < (x7.length : Int) then (if (rd x6 x29) = (rd x7 x29) then (impl_SwapPlace.l0 k x6 x7 x28 (wrap64 (x29 + 1))) else (some (x29, true))) else (none)) else (none)) else (none)) else (some (0, false))
end
def impl_SwapPlace.f (k : Nat) (a0 : Int) (a1 : Int) : Option (Int × Bool) := (impl_isSwapped.f k a0 a1).bind fun t347 => (if t347 = true then ((impl_orders.f k a0).bind fun t348 => (impl_SwapPlace.j0 k a0 a1 (a1 == (wrap64 (t348 - 1))))) else (impl_SwapPlace.j0 k a0 a1 true))
theorem impl_SwapPlace.calls (k : Nat) (a0 : Int) (a1 : Int) (r1 : Int) (r2 : Bool) (w : World) (h : impl_SwapPlace.f k a0 a1 = some (r1, r2)) :
  Calls Try.prog 24 #[.int .i64 a0, .int .i64 a1] w fun e w' => e = .returned (.tuple #[.int .i64 r1, .bool r2]) ∧ Below w.heap.size w w' := by
 have HB := Aside0.mk (Below.refl w.heap.size w)
 unfold impl_SwapPlace.f at h
 have H := h
 clear h
 have HC3 := Aside0.mk H
 clear H
 go_enter Try.func24, Try.ntmps24
 go_upto_region 1 with (fail)
 repeat (go_quiet (fail); go_upto_region 1 with (fail))
 go_cut [19] (fun v19 wc => ∃ (kq : Nat) (x19_2 : Bool), v19 = .bool x19_2 ∧ Aside0 (impl_SwapPlace.j0 kq a0 a1 x19_2 = some (r1, r2)) ∧ Aside0 (kq ≤ k) ∧ Aside0 (Below w.heap.size w wc))
 case first =>
  have H := HC3.out
  clear HC3
  replace H := Option.bind_eq_some_iff.mp H
  obtain ⟨t347, A40, H⟩ := H
  try dsimp +instances only at H
  replace H := H
  have A4 := Aside0.mk A40
  clear A40
  by_cases c5 : t347 = true
  ·subst c5
   rw [if_pos rfl] at H
   have H1 := H
   clear H
   have H := H1
   clear H1
   replace H := Option.bind_eq_some_iff.mp H
   obtain ⟨t348, A60, H⟩ := H
   try dsimp +instances only at H
   replace H := H
   have A6 := Aside0.mk A60
   clear A60
   have H' := Aside0.mk H
   clear H
   go_wp2_with (first | (go_at_call 57; (with_reducible refine (impl_isSwapped.calls k a0 a1 true _ A4.out).mono ?_); rintro e w' ⟨rfl, ⟨nd, rfl⟩⟩; (try first | exact ⟨rfl, _, World.drewN_drewN _ _ _⟩ | exact ⟨rfl, _, Eq.trans (World.drewN_drewN _ _ _) (congrArg (World.drewN _) (Nat.add_assoc _ _ _))⟩)) | (go_at_call 60; (with_reducible refine (impl_orders.calls k a0 t348 _ A6.out).mono ?_); rintro e w' ⟨rfl, ⟨nd, rfl⟩⟩; (try first | exact ⟨rfl, _, World.drewN_drewN _ _ _⟩ | exact ⟨rfl, _, Eq.trans (World.drewN_drewN _ _ _) (congrArg (World.drewN _) (Nat.add_assoc _ _ _))⟩)))
   repeat (go_quiet (first | (go_at_call 57; (with_reducible refine (impl_isSwapped.calls k a0 a1 true _ A4.out).mono ?_); rintro e w' ⟨rfl, ⟨nd, rfl⟩⟩; (try first | exact ⟨rfl, _, World.drewN_drewN _ _ _⟩ | exact ⟨rfl, _, Eq.trans (World.drewN_drewN _ _ _) (congrArg (World.drewN _) (Nat.add_assoc _ _ _))⟩)) | (go_at_call 60; (with_reducible refine (impl_orders.calls k a0 t348 _ A6.out).mono ?_); rintro e w' ⟨rfl, ⟨nd, rfl⟩⟩; (try first | exact ⟨rfl, _, World.drewN_drewN _ _ _⟩ | exact ⟨rfl, _, Eq.trans (World.drewN_drewN _ _ _) (congrArg (World.drewN _) (Nat.add_assoc _ _ _))⟩))); try go_wp2_with (fail))
   go_meet
   case rel => exact ⟨_, ((a1 == (wrap64 (t348 - 1)))), (by rfl), H', ⟨by omega⟩, ⟨by (apply pw_below_drewN; exact HB.out)⟩⟩
  ·replace c5 := Bool.eq_false_iff.mpr c5
   subst c5
   rw [if_neg (show ¬ (false = true) by decide)] at H
   have H1 := H
   clear H
   have H := H1
   clear H1
   have H' := Aside0.mk H
   clear H
   go_wp2_with (first | (go_at_call 57; (with_reducible refine (impl_isSwapped.calls k a0 a1 false _ A4.out).mono ?_); rintro e w' ⟨rfl, ⟨nd, rfl⟩⟩; (try first | exact ⟨rfl, _, World.drewN_drewN _ _ _⟩ | exact ⟨rfl, _, Eq.trans (World.drewN_drewN _ _ _) (congrArg (World.drewN _) (Nat.add_assoc _ _ _))⟩)))
   repeat (go_quiet (first | (go_at_call 57; (with_reducible refine (impl_isSwapped.calls k a0 a1 false _ A4.out).mono ?_); rintro e w' ⟨rfl, ⟨nd, rfl⟩⟩; (try first | exact ⟨rfl, _, World.drewN_drewN _ _ _⟩ | exact ⟨rfl, _, Eq.trans (World.drewN_drewN _ _ _) (congrArg (World.drewN _) (Nat.add_assoc _ _ _))⟩))); try go_wp2_with (fail))
   go_meet
   case rel => exact ⟨_, (true), (by rfl), H', ⟨by omega⟩, ⟨by (apply pw_below_drewN; exact HB.out)⟩⟩
 case rest =>
  clear HC3
  try clear c2
  try clear p2
  try clear c5
  try clear p6
  obtain ⟨kq, x19_2, rfl, HA, HJ2, HB⟩ := hcut
  cases kq with
  | zero => exact absurd HA.out (by simp [impl_SwapPlace.j0])
  | succ kj2 =>
   have H := HA.out
   clear HA
   simp only [impl_SwapPlace.j0] at H
   by_cases c7 : x19_2 = true
   ·subst c7
    rw [if_pos rfl] at H
    have H1 := H
    clear H
    have H := H1
    clear H1
    simp only [Option.some.injEq, Prod.mk.injEq] at H
    obtain ⟨rfl, rfl⟩ := H
    go_wp2
    repeat (go_quiet (fail); try go_wp2)
    go_ret2
    exact ⟨by rfl, HB.out⟩
   ·replace c7 := Bool.eq_false_iff.mpr c7
    subst c7
    rw [if_neg (show ¬ (false = true) by decide)] at H
    have H1 := H
    clear H
    have H := H1
    clear H1
    replace H := Option.bind_eq_some_iff.mp H
    obtain ⟨t349, A80, H⟩ := H
    try dsimp +instances only at H
    replace H := H
    have A8 := Aside0.mk A80
    clear A80
    replace H := Option.bind_eq_some_iff.mp H
    obtain ⟨t352, A90, H⟩ := H
    try dsimp +instances only at H
    replace H := H
    have A9 := Aside0.mk A90
    clear A90
    have H' := Aside0.mk H
    clear H
    go_wp2_with (first | (go_at_call 58; (with_reducible refine (impl_swapped.calls kj2 a0 a1 t349 _ A8.out).mono ?_); rintro e w10 ⟨v350, rfl, ho0, hb⟩; have n0_ := Aside0.mk (Kd.R_lower ho0 (below_size (HB.out))); have n1_ := Aside0.mk (below_step (HB.out) hb); clear HB; have HO351 := n0_; have HB := n1_; clear n0_ n1_; clear hb; clear ho0) | (go_at_call 58; (with_reducible refine (impl_swapped.calls kj2 a0 (wrap64 (a1 + 1)) t352 _ A9.out).mono ?_); rintro e w11 ⟨v353, rfl, ho0, hb⟩; have n0_ := Aside0.mk (Kd.R_elder' (HO351.out) (Kd.R_base ho0) hb); have n1_ := Aside0.mk (Kd.R_lower (Kd.R_new' ho0 (Kd.R_lt (HO351.out))) (below_size (HB.out))); have n2_ := Aside0.mk (below_step (HB.out) hb); clear HO351; clear HB; have HO351 := n0_; have HO354 := n1_; have HB := n2_; clear n0_ n1_ n2_; clear hb; clear ho0; obtain ⟨Ao12, co12, eo12⟩ := Kd.R_slice HO351.out; subst eo12))
    repeat (go_quiet (first | (go_at_call 58; (with_reducible refine (impl_swapped.calls kj2 a0 a1 t349 _ A8.out).mono ?_); rintro e w10 ⟨v350, rfl, ho0, hb⟩; have n0_ := Aside0.mk (Kd.R_lower ho0 (below_size (by repeat (first | (with_reducible first | exact HB.out | apply below_alloc | apply pw_below_drewN | apply below_drew1) | exact HB.out)))); have n1_ := Aside0.mk (below_step (by repeat (first | (with_reducible first | exact HB.out | apply below_alloc | apply pw_below_drewN | apply below_drew1) | exact HB.out)) hb); clear HB; have HO351 := n0_; have HB := n1_; clear n0_ n1_; (try clear hb); (try clear hb2); (try clear hk); (try clear hi); (try clear ho0)) | (go_at_call 58; (with_reducible refine (impl_swapped.calls kj2 a0 (wrap64 (a1 + 1)) t352 _ A9.out).mono ?_); rintro e w11 ⟨v353, rfl, ho0, hb⟩; have n0_ := Aside0.mk (Kd.R_elder' (by (with_reducible repeat (first | apply Kd.R_alloc | apply Kd.R_drewN | apply Kd.R_drew)); exact HO351.out) (Kd.R_base ho0) hb); have n1_ := Aside0.mk (Kd.R_lower (Kd.R_new' ho0 (Kd.R_lt (by (with_reducible repeat (first | apply Kd.R_alloc | apply Kd.R_drewN | apply Kd.R_drew)); exact HO351.out))) (below_size (by repeat (first | (with_reducible first | exact HB.out | apply below_alloc | apply pw_below_drewN | apply below_drew1) | exact HB.out)))); have n2_ := Aside0.mk (below_step (by repeat (first | (with_reducible first | exact HB.out | apply below_alloc | apply pw_below_drewN | apply below_drew1) | exact HB.out)) hb); clear HO351; clear HB; have HO351 := n0_; have HO354 := n1_; have HB := n2_; clear n0_ n1_ n2_; (try clear hb); (try clear hb2); (try clear hk); (try clear hi); (try clear ho0); obtain ⟨Ao12, co12, eo12⟩ := Kd.R_slice HO351.out; subst eo12)); try go_wp2_with (fail))
    go_loopg [29] kj2 (fun kq v29 w' => ∃ (x29_2 : Int), v29 = .int .i64 x29_2 ∧ Aside0 (impl_SwapPlace.l0 kq t349 t352 (t349.length : Int) x29_2 = some (r1, r2)) ∧ Aside0 (kq ≤ kj2) ∧ Aside0 (Kd.R (Kd.int .i64) 3 w' w.heap.size (fun k_ => some k_ ≠ (v353 : Value).ownBlock) (.slice Ao12 t349.length co12) t349) ∧ Aside0 (Kd.R (Kd.int .i64) 3 w' w.heap.size (fun k_ => some k_ ≠ ((.slice Ao12 t349.length co12) : Value).ownBlock) v353 t352) ∧ Aside0 (Below w.heap.size w w'))
    case atStart => exact ⟨(0), (by rfl), H', ⟨Nat.le_refl _⟩, ⟨by exact Kd.R_mono HO351.out (fun _ hk => hk.2)⟩, ⟨by exact Kd.R_mono HO354.out (fun _ hk => hk.2)⟩, ⟨HB.out⟩⟩
    case round =>
     clear H'
     try clear c2
     try clear p2
     try clear c5
     try clear p6
     try clear c7
     try clear p2
     try clear p6
     obtain ⟨x29_2, rfl, HA, HK2, HO_6, HO_7, HB⟩ := hrel
     cases gk with
     | zero => exact absurd HA.out (by simp [impl_SwapPlace.l0])
     | succ k2 =>
      have H := HA.out
      clear HA
      simp only [impl_SwapPlace.l0] at H
      by_cases c13 : x29_2 < (t349.length : Int)
      ·rw [if_pos c13] at H
       have c13b0 : decide (x29_2 < (t349.length : Int)) = true := decide_eq_true c13
       clear c13
       by_cases c14 : 0 ≤ x29_2
       ·rw [if_pos c14] at H
        have c14b0 : decide (0 ≤ x29_2) = true := decide_eq_true c14
        clear c14
        by_cases c15 : x29_2 < (t349.length : Int)
        ·rw [if_pos c15] at H
         have c15b0 : decide (x29_2 < (t349.length : Int)) = true := decide_eq_true c15
         clear c15
         by_cases c16 : x29_2 < (t352.length : Int)
         ·rw [if_pos c16] at H
          have c16b0 : decide (x29_2 < (t352.length : Int)) = true := decide_eq_true c16
          clear c16
          by_cases c17 : (rd t349 x29_2) = (rd t352 x29_2)
          ·rw [if_pos c17] at H
           have c17b0 : ((rd t349 x29_2) == (rd t352 x29_2)) = true := beq_iff_eq.mpr c17
           have c17b1 : ((rd t349 x29_2) != (rd t352 x29_2)) = false := bne_eq_false_iff_eq.mpr c17
           clear c17
           have H' := Aside0.mk H
           clear H
           have p355 : 0 ≤ (x29_2 : Int) := of_decide_eq_true (by with_reducible assumption)
           have q355 : x29_2 < (t349.length : Int) := of_decide_eq_true (by with_reducible assumption)
           obtain ⟨ad355, e355, hx355_0⟩ := Kd.at_int (Kd.R_reads' HO_6.out).2.2 x29_2 p355 q355
           cases e355
           replace p355 := eq_true p355
           replace q355 := eq_true q355
           obtain ⟨Ao18, co18, eo18⟩ := Kd.R_slice HO_7.out
           subst eo18
           have p356 : 0 ≤ (x29_2 : Int) := of_decide_eq_true (by with_reducible assumption)
           have q356 : x29_2 < (t352.length : Int) := of_decide_eq_true (by with_reducible assumption)
           obtain ⟨ad356, e356, hx356_0⟩ := Kd.at_int (Kd.R_reads' HO_7.out).2.2 x29_2 p356 q356
           cases e356
           replace p356 := eq_true p356
           replace q356 := eq_true q356
           go_wp2
           repeat (go_quiet (fail); try go_wp2)
           go_roundg k2
           case measure => have := HJ2.out; have := HK2.out; omega
           case rel => exact ⟨(wrap64 (x29_2 + 1)), (by rfl), H', ⟨by have := HJ2.out; have := HK2.out; omega⟩, ⟨by apply Kd.R_drewN; exact HO_6.out⟩, ⟨by apply Kd.R_drewN; exact HO_7.out⟩, ⟨by (apply pw_below_drewN; exact HB.out)⟩⟩
          ·rw [if_neg c17] at H
           have c17b0 : ((rd t349 x29_2) == (rd t352 x29_2)) = false := beq_eq_false_iff_ne.mpr c17
           have c17b1 : ((rd t349 x29_2) != (rd t352 x29_2)) = true := bne_iff_ne.mpr c17
           simp only [Option.some.injEq, Prod.mk.injEq] at H
           obtain ⟨rfl, rfl⟩ := H
           have p355 : 0 ≤ (x29_2 : Int) := of_decide_eq_true (by with_reducible assumption)
           have q355 : x29_2 < (t349.length : Int) := of_decide_eq_true (by with_reducible assumption)
           obtain ⟨ad355, e355, hx355_0⟩ := Kd.at_int (Kd.R_reads' HO_6.out).2.2 x29_2 p355 q355
           cases e355
           replace p355 := eq_true p355
           replace q355 := eq_true q355
           obtain ⟨Ao19, co19, eo19⟩ := Kd.R_slice HO_7.out
           subst eo19
           have p356 : 0 ≤ (x29_2 : Int) := of_decide_eq_true (by with_reducible assumption)
           have q356 : x29_2 < (t352.length : Int) := of_decide_eq_true (by with_reducible assumption)
           obtain ⟨ad356, e356, hx356_0⟩ := Kd.at_int (Kd.R_reads' HO_7.out).2.2 x29_2 p356 q356
           cases e356
           replace p356 := eq_true p356
           replace q356 := eq_true q356
           go_wp2
           repeat (go_quiet (fail); try go_wp2)
           go_ret2
           exact ⟨by rfl, by (apply pw_below_drewN; exact HB.out)⟩
         ·rw [if_neg c16] at H
          exact absurd H (by simp)
        ·rw [if_neg c15] at H
         exact absurd H (by simp)
       ·rw [if_neg c14] at H
        exact absurd H (by simp)
      ·rw [if_neg c13] at H
       have c13b0 : decide (x29_2 < (t349.length : Int)) = false := decide_eq_false c13
       clear c13
       simp only [Option.some.injEq, Prod.mk.injEq] at H
       obtain ⟨rfl, rfl⟩ := H
       go_wp2
       repeat (go_quiet (fail); try go_wp2)
       go_ret2
       exact ⟨by rfl, HB.out⟩
mutual
def spec_SwapPlace.j0 : Nat → Int → Int → Bool → Option (Int × Bool)
 | 0, _, _, _ => none
 | k + 1, x0, x1, x19 => if x19 = true then (some (0, false)) else ((spec_nuSwapped.f k x0 x1).bind fun t360 => ((spec_nuSwapped.f k x0 (wrap64 (x1 + 1))).bind fun t363 => (spec_SwapPlace.l0 k t360 t363 (t360.length : Int) 0)))
def spec_SwapPlace.l0 : Nat → List Int → List Int → Int → Int → Option (Int × Bool)
 | 0, _, _, _, _ => none
 | k + 1, x6, x7, x28, x29 => if x29 < x28 then (if 0 ≤ x29 then (if x29 < (x6.length : Int) then (if x29 < (x7.length : Int) then (if (rd x6 x29) = (rd x7 x29) then (spec_SwapPlace.l0 k x6 x7 x28 (wrap64 (x29 + 1))) else (some (x29, true))) else (none)) else (none)) else (none)) else (some (0, false))
end
def spec_SwapPlace.f (k : Nat) (a0 : Int) (a1 : Int) : Option (Int × Bool) := (spec_l1In.f a0 1 10).bind fun t357 => (if t357 = true then ((spec_nuLists.f k a0).bind fun t358 => ((spec_l1In.f a1 0 (wrap64 (t358 - 2))).bind fun t359 => (spec_SwapPlace.j0 k a0 a1 (!t359)))) else (spec_SwapPlace.j0 k a0 a1 true))
theorem spec_SwapPlace.calls (k : Nat) (a0 : Int) (a1 : Int) (r1 : Int) (r2 : Bool) (w : World) (h : spec_SwapPlace.f k a0 a1 = some (r1, r2)) :
  Calls Try.prog 25 #[.int .i64 a0, .int .i64 a1] w fun e w' => e = .returned (.tuple #[.int .i64 r1, .bool r2]) ∧ Below w.heap.size w w' := by
 have HB := Aside0.mk (Below.refl w.heap.size w)
 unfold spec_SwapPlace.f at h
 have H := h
 clear h
 have HC3 := Aside0.mk H
 clear H
 go_enter Try.func25, Try.ntmps25
 go_upto_region 1 with (fail)
 repeat (go_quiet (fail); go_upto_region 1 with (fail))
 go_cut [19] (fun v19 wc => ∃ (kq : Nat) (x19_2 : Bool), v19 = .bool x19_2 ∧ Aside0 (spec_SwapPlace.j0 kq a0 a1 x19_2 = some (r1, r2)) ∧ Aside0 (kq ≤ k) ∧ Aside0 (Below w.heap.size w wc))
 case first =>
  have H := HC3.out
  clear HC3
  replace H := Option.bind_eq_some_iff.mp H
  obtain ⟨t357, A40, H⟩ := H
  try dsimp +instances only at H
  replace H := H
  have A4 := Aside0.mk A40
  clear A40
  by_cases c5 : t357 = true
  ·subst c5
   rw [if_pos rfl] at H
   have H1 := H
   clear H
   have H := H1
   clear H1
   replace H := Option.bind_eq_some_iff.mp H
   obtain ⟨t358, A60, H⟩ := H
   try dsimp +instances only at H
   replace H := H
   have A6 := Aside0.mk A60
   clear A60
   replace H := Option.bind_eq_some_iff.mp H
   obtain ⟨t359, A70, H⟩ := H
   try dsimp +instances only at H
   replace H := H
   have A7 := Aside0.mk A70
   clear A70
   have H' := Aside0.mk H
   clear H
   go_wp2_with (first | (go_at_call 42; (with_reducible refine (spec_l1In.calls a0 1 10 true _ A4.out).mono ?_); rintro e w' ⟨rfl, ⟨nd, rfl⟩⟩; (try first | exact ⟨rfl, _, World.drewN_drewN _ _ _⟩ | exact ⟨rfl, _, Eq.trans (World.drewN_drewN _ _ _) (congrArg (World.drewN _) (Nat.add_assoc _ _ _))⟩)) | (go_at_call 56; (with_reducible refine (spec_nuLists.calls k a0 t358 _ A6.out).mono ?_); rintro e w' ⟨rfl, ⟨nd, rfl⟩⟩; (try first | exact ⟨rfl, _, World.drewN_drewN _ _ _⟩ | exact ⟨rfl, _, Eq.trans (World.drewN_drewN _ _ _) (congrArg (World.drewN _) (Nat.add_assoc _ _ _))⟩)) | (go_at_call 42; (with_reducible refine (spec_l1In.calls a1 0 (wrap64 (t358 - 2)) t359 _ A7.out).mono ?_); rintro e w' ⟨rfl, ⟨nd, rfl⟩⟩; (try first | exact ⟨rfl, _, World.drewN_drewN _ _ _⟩ | exact ⟨rfl, _, Eq.trans (World.drewN_drewN _ _ _) (congrArg (World.drewN _) (Nat.add_assoc _ _ _))⟩)))
   repeat (go_quiet (first | (go_at_call 42; (with_reducible refine (spec_l1In.calls a0 1 10 true _ A4.out).mono ?_); rintro e w' ⟨rfl, ⟨nd, rfl⟩⟩; (try first | exact ⟨rfl, _, World.drewN_drewN _ _ _⟩ | exact ⟨rfl, _, Eq.trans (World.drewN_drewN _ _ _) (congrArg (World.drewN _) (Nat.add_assoc _ _ _))⟩)) | (go_at_call 56; (with_reducible refine (spec_nuLists.calls k a0 t358 _ A6.out).mono ?_); rintro e w' ⟨rfl, ⟨nd, rfl⟩⟩; (try first | exact ⟨rfl, _, World.drewN_drewN _ _ _⟩ | exact ⟨rfl, _, Eq.trans (World.drewN_drewN _ _ _) (congrArg (World.drewN _) (Nat.add_assoc _ _ _))⟩)) | (go_at_call 42; (with_reducible refine (spec_l1In.calls a1 0 (wrap64 (t358 - 2)) t359 _ A7.out).mono ?_); rintro e w' ⟨rfl, ⟨nd, rfl⟩⟩; (try first | exact ⟨rfl, _, World.drewN_drewN _ _ _⟩ | exact ⟨rfl, _, Eq.trans (World.drewN_drewN _ _ _) (congrArg (World.drewN _) (Nat.add_assoc _ _ _))⟩))); try go_wp2_with (fail))
   go_meet
   case rel => exact ⟨_, (!t359), (by rfl), H', ⟨by omega⟩, ⟨by (apply pw_below_drewN; exact HB.out)⟩⟩
  ·replace c5 := Bool.eq_false_iff.mpr c5
   subst c5
   rw [if_neg (show ¬ (false = true) by decide)] at H
   have H1 := H
   clear H
   have H := H1
   clear H1
   have H' := Aside0.mk H
   clear H
   go_wp2_with (first | (go_at_call 42; (with_reducible refine (spec_l1In.calls a0 1 10 false _ A4.out).mono ?_); rintro e w' ⟨rfl, ⟨nd, rfl⟩⟩; (try first | exact ⟨rfl, _, World.drewN_drewN _ _ _⟩ | exact ⟨rfl, _, Eq.trans (World.drewN_drewN _ _ _) (congrArg (World.drewN _) (Nat.add_assoc _ _ _))⟩)))
   repeat (go_quiet (first | (go_at_call 42; (with_reducible refine (spec_l1In.calls a0 1 10 false _ A4.out).mono ?_); rintro e w' ⟨rfl, ⟨nd, rfl⟩⟩; (try first | exact ⟨rfl, _, World.drewN_drewN _ _ _⟩ | exact ⟨rfl, _, Eq.trans (World.drewN_drewN _ _ _) (congrArg (World.drewN _) (Nat.add_assoc _ _ _))⟩))); try go_wp2_with (fail))
   go_meet
   case rel => exact ⟨_, (true), (by rfl), H', ⟨by omega⟩, ⟨by (apply pw_below_drewN; exact HB.out)⟩⟩
 case rest =>
  clear HC3
  try clear c2
  try clear p2
  try clear c5
  try clear p6
  obtain ⟨kq, x19_2, rfl, HA, HJ2, HB⟩ := hcut
  cases kq with
  | zero => exact absurd HA.out (by simp [spec_SwapPlace.j0])
  | succ kj2 =>
   have H := HA.out
   clear HA
   simp only [spec_SwapPlace.j0] at H
   by_cases c8 : x19_2 = true
   ·subst c8
    rw [if_pos rfl] at H
    have H1 := H
    clear H
    have H := H1
    clear H1
    simp only [Option.some.injEq, Prod.mk.injEq] at H
    obtain ⟨rfl, rfl⟩ := H
    go_wp2
    repeat (go_quiet (fail); try go_wp2)
    go_ret2
    exact ⟨by rfl, HB.out⟩
   ·replace c8 := Bool.eq_false_iff.mpr c8
    subst c8
    rw [if_neg (show ¬ (false = true) by decide)] at H
    have H1 := H
    clear H
    have H := H1
    clear H1
    replace H := Option.bind_eq_some_iff.mp H
    obtain ⟨t360, A90, H⟩ := H
    try dsimp +instances only at H
    replace H := H
    have A9 := Aside0.mk A90
    clear A90
    replace H := Option.bind_eq_some_iff.mp H
    obtain ⟨t363, A100, H⟩ := H
    try dsimp +instances only at H
    replace H := H
    have A10 := Aside0.mk A100
    clear A100
    have H' := Aside0.mk H
    clear H
    go_wp2_with (first | (go_at_call 59; (with_reducible refine (spec_nuSwapped.calls kj2 a0 a1 t360 _ A9.out).mono ?_); rintro e w11 ⟨v361, rfl, ho0, hb⟩; have n0_ := Aside0.mk (Kd.R_lower ho0 (below_size (HB.out))); have n1_ := Aside0.mk (below_step (HB.out) hb); clear HB; have HO362 := n0_; have HB := n1_; clear n0_ n1_; clear hb; clear ho0) | (go_at_call 59; (with_reducible refine (spec_nuSwapped.calls kj2 a0 (wrap64 (a1 + 1)) t363 _ A10.out).mono ?_); rintro e w12 ⟨v364, rfl, ho0, hb⟩; have n0_ := Aside0.mk (Kd.R_elder' (HO362.out) (Kd.R_base ho0) hb); have n1_ := Aside0.mk (Kd.R_lower (Kd.R_new' ho0 (Kd.R_lt (HO362.out))) (below_size (HB.out))); have n2_ := Aside0.mk (below_step (HB.out) hb); clear HO362; clear HB; have HO362 := n0_; have HO365 := n1_; have HB := n2_; clear n0_ n1_ n2_; clear hb; clear ho0; obtain ⟨Ao13, co13, eo13⟩ := Kd.R_slice HO362.out; subst eo13))
    repeat (go_quiet (first | (go_at_call 59; (with_reducible refine (spec_nuSwapped.calls kj2 a0 a1 t360 _ A9.out).mono ?_); rintro e w11 ⟨v361, rfl, ho0, hb⟩; have n0_ := Aside0.mk (Kd.R_lower ho0 (below_size (by repeat (first | (with_reducible first | exact HB.out | apply below_alloc | apply pw_below_drewN | apply below_drew1) | exact HB.out)))); have n1_ := Aside0.mk (below_step (by repeat (first | (with_reducible first | exact HB.out | apply below_alloc | apply pw_below_drewN | apply below_drew1) | exact HB.out)) hb); clear HB; have HO362 := n0_; have HB := n1_; clear n0_ n1_; (try clear hb); (try clear hb2); (try clear hk); (try clear hi); (try clear ho0)) | (go_at_call 59; (with_reducible refine (spec_nuSwapped.calls kj2 a0 (wrap64 (a1 + 1)) t363 _ A10.out).mono ?_); rintro e w12 ⟨v364, rfl, ho0, hb⟩; have n0_ := Aside0.mk (Kd.R_elder' (by (with_reducible repeat (first | apply Kd.R_alloc | apply Kd.R_drewN | apply Kd.R_drew)); exact HO362.out) (Kd.R_base ho0) hb); have n1_ := Aside0.mk (Kd.R_lower (Kd.R_new' ho0 (Kd.R_lt (by (with_reducible repeat (first | apply Kd.R_alloc | apply Kd.R_drewN | apply Kd.R_drew)); exact HO362.out))) (below_size (by repeat (first | (with_reducible first | exact HB.out | apply below_alloc | apply pw_below_drewN | apply below_drew1) | exact HB.out)))); have n2_ := Aside0.mk (below_step (by repeat (first | (with_reducible first | exact HB.out | apply below_alloc | apply pw_below_drewN | apply below_drew1) | exact HB.out)) hb); clear HO362; clear HB; have HO362 := n0_; have HO365 := n1_; have HB := n2_; clear n0_ n1_ n2_; (try clear hb); (try clear hb2); (try clear hk); (try clear hi); (try clear ho0); obtain ⟨Ao13, co13, eo13⟩ := Kd.R_slice HO362.out; subst eo13)); try go_wp2_with (fail))
    go_loopg [29] kj2 (fun kq v29 w' => ∃ (x29_2 : Int), v29 = .int .i64 x29_2 ∧ Aside0 (spec_SwapPlace.l0 kq t360 t363 (t360.length : Int) x29_2 = some (r1, r2)) ∧ Aside0 (kq ≤ kj2) ∧ Aside0 (Kd.R (Kd.int .i64) 3 w' w.heap.size (fun k_ => some k_ ≠ (v364 : Value).ownBlock) (.slice Ao13 t360.length co13) t360) ∧ Aside0 (Kd.R (Kd.int .i64) 3 w' w.heap.size (fun k_ => some k_ ≠ ((.slice Ao13 t360.length co13) : Value).ownBlock) v364 t363) ∧ Aside0 (Below w.heap.size w w'))
    case atStart => exact ⟨(0), (by rfl), H', ⟨Nat.le_refl _⟩, ⟨by exact Kd.R_mono HO362.out (fun _ hk => hk.2)⟩, ⟨by exact Kd.R_mono HO365.out (fun _ hk => hk.2)⟩, ⟨HB.out⟩⟩
    case round =>
     clear H'
     try clear c2
     try clear p2
     try clear c5
     try clear p6
     try clear c8
     try clear p2
     try clear p6
     obtain ⟨x29_2, rfl, HA, HK2, HO_6, HO_7, HB⟩ := hrel
     cases gk with
     | zero => exact absurd HA.out (by simp [spec_SwapPlace.l0])
     | succ k2 =>
      have H := HA.out
      clear HA
      simp only [spec_SwapPlace.l0] at H
      by_cases c14 : x29_2 < (t360.length : Int)
      ·rw [if_pos c14] at H
       have c14b0 : decide (x29_2 < (t360.length : Int)) = true := decide_eq_true c14
       clear c14
       by_cases c15 : 0 ≤ x29_2
       ·rw [if_pos c15] at H
        have c15b0 : decide (0 ≤ x29_2) = true := decide_eq_true c15
        clear c15
        by_cases c16 : x29_2 < (t360.length : Int)
        ·rw [if_pos c16] at H
         have c16b0 : decide (x29_2 < (t360.length : Int)) = true := decide_eq_true c16
         clear c16
         by_cases c17 : x29_2 < (t363.length : Int)
         ·rw [if_pos c17] at H
          have c17b0 : decide (x29_2 < (t363.length : Int)) = true := decide_eq_true c17
          clear c17
          by_cases c18 : (rd t360 x29_2) = (rd t363 x29_2)
          ·rw [if_pos c18] at H
           have c18b0 : ((rd t360 x29_2) == (rd t363 x29_2)) = true := beq_iff_eq.mpr c18
           have c18b1 : ((rd t360 x29_2) != (rd t363 x29_2)) = false := bne_eq_false_iff_eq.mpr c18
           clear c18
           have H' := Aside0.mk H
           clear H
           have p366 : 0 ≤ (x29_2 : Int) := of_decide_eq_true (by with_reducible assumption)
           have q366 : x29_2 < (t360.length : Int) := of_decide_eq_true (by with_reducible assumption)
           obtain ⟨ad366, e366, hx366_0⟩ := Kd.at_int (Kd.R_reads' HO_6.out).2.2 x29_2 p366 q366
           cases e366
           replace p366 := eq_true p366
           replace q366 := eq_true q366
           obtain ⟨Ao19, co19, eo19⟩ := Kd.R_slice HO_7.out
           subst eo19
           have p367 : 0 ≤ (x29_2 : Int) := of_decide_eq_true (by with_reducible assumption)
           have q367 : x29_2 < (t363.length : Int) := of_decide_eq_true (by with_reducible assumption)
           obtain ⟨ad367, e367, hx367_0⟩ := Kd.at_int (Kd.R_reads' HO_7.out).2.2 x29_2 p367 q367
           cases e367
           replace p367 := eq_true p367
           replace q367 := eq_true q367
           go_wp2
           repeat (go_quiet (fail); try go_wp2)
           go_roundg k2
           case measure => have := HJ2.out; have := HK2.out; omega
           case rel => exact ⟨(wrap64 (x29_2 + 1)), (by rfl), H', ⟨by have := HJ2.out; have := HK2.out; omega⟩, ⟨by apply Kd.R_drewN; exact HO_6.out⟩, ⟨by apply Kd.R_drewN; exact HO_7.out⟩, ⟨by (apply pw_below_drewN; exact HB.out)⟩⟩
          ·rw [if_neg c18] at H
           have c18b0 : ((rd t360 x29_2) == (rd t363 x29_2)) = false := beq_eq_false_iff_ne.mpr c18
           have c18b1 : ((rd t360 x29_2) != (rd t363 x29_2)) = true := bne_iff_ne.mpr c18
           simp only [Option.some.injEq, Prod.mk.injEq] at H
           obtain ⟨rfl, rfl⟩ := H
           have p366 : 0 ≤ (x29_2 : Int) := of_decide_eq_true (by with_reducible assumption)
           have q366 : x29_2 < (t360.length : Int) := of_decide_eq_true (by with_reducible assumption)
           obtain ⟨ad366, e366, hx366_0⟩ := Kd.at_int (Kd.R_reads' HO_6.out).2.2 x29_2 p366 q366
           cases e366
           replace p366 := eq_true p366
           replace q366 := eq_true q366
           obtain ⟨Ao20, co20, eo20⟩ := Kd.R_slice HO_7.out
           subst eo20
           have p367 : 0 ≤ (x29_2 : Int) := of_decide_eq_true (by with_reducible assumption)
           have q367 : x29_2 < (t363.length : Int) := of_decide_eq_true (by with_reducible assumption)
           obtain ⟨ad367, e367, hx367_0⟩ := Kd.at_int (Kd.R_reads' HO_7.out).2.2 x29_2 p367 q367
           cases e367
           replace p367 := eq_true p367
           replace q367 := eq_true q367
           go_wp2
           repeat (go_quiet (fail); try go_wp2)
           go_ret2
           exact ⟨by rfl, by (apply pw_below_drewN; exact HB.out)⟩
         ·rw [if_neg c17] at H
          exact absurd H (by simp)
        ·rw [if_neg c16] at H
         exact absurd H (by simp)
       ·rw [if_neg c15] at H
        exact absurd H (by simp)
      ·rw [if_neg c14] at H
       have c14b0 : decide (x29_2 < (t360.length : Int)) = false := decide_eq_false c14
       clear c14
       simp only [Option.some.injEq, Prod.mk.injEq] at H
       obtain ⟨rfl, rfl⟩ := H
       go_wp2
       repeat (go_quiet (fail); try go_wp2)
       go_ret2
       exact ⟨by rfl, HB.out⟩
def spec_DrawRankOfSwapped_c.j0 : Nat → List Int → Bool → List Int → Int → Int → Option (List Int × Int × Int)
 | 0, _, _, _, _, _ => none
 | k + 1, x6, x27, x1000, x1001, x1002 => if x27 = true then ((spec_l1Own.f x6).bind fun t377 => ((spec_l1Cur_among.f x1000 x1001 x1002 (([(-1), 0, 1, 2, 4611686018427387904] : List Int))).bind fun bt383 => (if t377.length < 17592186044416 then (some ((t377 ++ [bt383.1]), bt383.2.1, bt383.2.2)) else (none)))) else (some (x6, x1001, x1002))
def spec_DrawRankOfSwapped_c.f (k : Nat) (s0_0 : List Int) (s0_1 : Int) (s0_2 : Int) (l1 : List Int) : Option (List Int × Int × Int) := (spec_DrawSwappedAt.f k l1).bind fun bt368 => ((spec_SwappedAt.f k bt368.1 bt368.2).bind fun bt370 => (if bt370.2 = true then ((spec_l1Cur_one.f s0_0 s0_1 s0_2 10).bind fun bt374 => (spec_DrawRankOfSwapped_c.j0 k bt370.1 bt374.1 s0_0 bt374.2.1 bt374.2.2)) else (spec_DrawRankOfSwapped_c.j0 k bt370.1 true s0_0 s0_1 s0_2)))
theorem spec_DrawRankOfSwapped_c.at (k : Nat) (A0 : Option Addr) (c0 : Nat) (s0_0 : List Int) (s0_1 : Int) (s0_2 : Int) (r1 : List Int) (r2 : Int) (r3 : Int) (w0 : World) (ez1 : s0_1 = 0) (ez2 : s0_2 = 0) (hr0 : Kd.C (Kd.int .u8) w0 A0 s0_0.length s0_0) (hc0 : s0_0.length ≤ c0) (h : spec_DrawRankOfSwapped_c.f k s0_0 s0_1 s0_2 s0_0 = some (r1, r2, r3)) :
  Calls Try.prog 26 #[.slice A0 s0_0.length c0] w0 fun e w' => ∃ v0_ : Value, e = .returned (v0_) ∧ Kd.R (Kd.int .i64) 3 w' w0.heap.size (fun _ => True) v0_ r1 ∧ Below w0.heap.size w0 w' := by
 have hu51 := Try.underlying51
 have HRA := Aside0.mk hr0
 have EZ1 := Aside0.mk ez1
 have EZ2 := Aside0.mk ez2
 clear hr0 ez1 ez2
 unfold spec_DrawRankOfSwapped_c.f at h
 have H := h
 clear h
 replace H := Option.bind_eq_some_iff.mp H
 obtain ⟨⟨t368, t369⟩, A30, H⟩ := H
 try dsimp +instances only at H
 replace H := H
 have A3 := Aside0.mk A30
 clear A30
 replace H := Option.bind_eq_some_iff.mp H
 obtain ⟨⟨t370, t371⟩, A40, H⟩ := H
 try dsimp +instances only at H
 replace H := H
 have A4 := Aside0.mk A40
 clear A40
 have HC5 := Aside0.mk H
 clear H
 go_enter Try.func26, Try.ntmps26
 try dsimp only [List.append]
 go_upto_region 2 with (first | ((with_reducible refine gate_dst (N := 10) rfl ?_); (try (refine gate_guard (by rfl) ?_; dsimp only)); refine box_event ?hg (N := 10) ?hd (cs := #[.slice A0 s0_0.length c0, .int .i64 0, .int .u64 0]) (t := 51) ?hr ?_; (case hd => rfl); (case hg => rfl); (case hr => first | (go_simp; done) | (go_simp; rfl)); intro g hgb w hbox hb; have HI0 := Aside0.mk (show IsS51 w0 w g s0_0 s0_1 s0_2 from ⟨A0, c0, by rw [EZ1.out, EZ2.out]; exact hbox, by rw [hgb]; exact Nat.le_refl _, HRA.out⟩); have HK := Aside0.mk (KeepBut.refl w g none); have HL := Aside0.mk hb.size; have HW0 := Aside0.mk hb.size; have HB := Aside0.mk hb; have HR1 := Aside0.mk (Kd.C_below HRA.out hb); have HC1 := Aside0.mk hc0; have hf1 : ∀ ad, A0 = some ad → 0 < s0_0.length → ad.block ≠ g := (fun ad ha hn => by have hz := Kd.C_lt (d := Kd.int .u8) (by rw [← ha]; exact HRA.out) hn (by decide); omega); clear hb hbox hgb))
 (try simp only [Act.put, List.setIfInBounds_toArray, List.set_cons_zero, List.set_cons_succ])
 go_upto_region 4 with (first | ((with_reducible refine gate_callee (f := 21) rfl ?_); refine goesL_ (some 13) rfl rfl Try.func21 (by kernel_rfl) rfl #[.slice A0 s0_0.length c0] rfl (by (try simp only [List.map_toArray, List.map_cons, List.map_nil]); rfl) ?_; (with_reducible refine (spec_DrawSwappedAt.calls k _ _ s0_0 t368 t369 _ ?side1 ?side2 A3.out).mono ?_); (case side1 => exact Kd.C_keep 0 HR1.out (HK.out) hf1); (case side2 => exact HC1.out); rintro e w6 ⟨rfl, hb⟩; refine ⟨_, rfl, ?_⟩; have n0_ := Aside0.mk (IsS51.below (HI0.out) hb); have n1_ := Aside0.mk (KeepBut.trans (HK.out) (KeepBut.of_below hb g none) (.inl rfl)); have n2_ := Aside0.mk (below_step (HB.out) hb); clear HI0; clear HK; clear HB; have HI0 := n0_; have HK := n1_; have HB := n2_; clear n0_ n1_ n2_; clear hb; (try clear hi)) | ((with_reducible refine gate_callee (f := 23) rfl ?_); refine goesL_ (some 19) rfl rfl Try.func23 (by kernel_rfl) rfl #[.int .i64 t368, .int .i64 t369] rfl (by (try simp only [List.map_toArray, List.map_cons, List.map_nil]); rfl) ?_; (with_reducible refine (spec_SwappedAt.calls k t368 t369 t370 t371 _ A4.out).mono ?_); rintro e w7 ⟨v372, rfl, ho0, hb⟩; refine ⟨_, rfl, ?_⟩; have n0_ := Aside0.mk (Kd.R_lower ho0 (keep_size (w := w) (g := g) (row := none) (HK.out))); have n1_ := Aside0.mk (IsS51.below (HI0.out) hb); have n2_ := Aside0.mk (KeepBut.trans (HK.out) (KeepBut.of_below hb g none) (.inl rfl)); have n3_ := Aside0.mk (below_step (HB.out) hb); clear HI0; clear HK; clear HB; have HO373 := n0_; have HI0 := n1_; have HK := n2_; have HB := n3_; clear n0_ n1_ n2_ n3_; clear hb; clear ho0))
 (try simp only [Act.put, List.setIfInBounds_toArray, List.set_cons_zero, List.set_cons_succ])
 go_cut [27] (fun v27 wc => ∃ (kq : Nat) (x27_4 : Bool) (x1001_4 : Int) (x1002_4 : Int), v27 = .bool x27_4 ∧ Aside0 (spec_DrawRankOfSwapped_c.j0 kq t370 x27_4 s0_0 x1001_4 x1002_4 = some (r1, r2, r3)) ∧ Aside0 (kq ≤ k) ∧ Aside0 (Kd.R (Kd.int .i64) 3 wc w.heap.size (fun _ => True) v372 t370) ∧ Aside0 (IsS51 w0 wc g s0_0 x1001_4 x1002_4) ∧ Aside0 (KeepBut w wc g none) ∧ Aside0 (Below w0.heap.size w0 wc))
 case first =>
  have H := HC5.out
  clear HC5
  by_cases c8 : t371 = true
  ·subst c8
   rw [if_pos rfl] at H
   have H1 := H
   clear H
   have H := H1
   clear H1
   replace H := Option.bind_eq_some_iff.mp H
   obtain ⟨⟨t374, t375, t376⟩, A90, H⟩ := H
   try dsimp +instances only at H
   replace H := H
   have A9 := Aside0.mk A90
   clear A90
   have H' := Aside0.mk H
   clear H
   go_wp2_with (first | (go_at_call 36; (with_reducible refine (spec_l1Cur_one.calls g s0_0 s0_1 s0_2 10 t374 t375 t376 w0 _ ?side1 ?side2 A9.out).mono ?_); (case side1 => exact HI0.out); (case side2 => exact HB.out); rintro e w10 ⟨rfl, hi, hb, hk⟩; have n0_ := Aside0.mk (Kd.R_mono (Kd.R_keep (IsS51.apart (show IsS51 w0 _ g s0_0 s0_1 s0_2 from HI0.out) (HO373.out) (by decide)) hk (fun _ h => h.2)) (fun _ h => h.1)); have n1_ := Aside0.mk (KeepBut.trans (HK.out) hk (.inl rfl)); have n2_ := Aside0.mk (hb); have n3_ := Aside0.mk (hi); clear HO373; clear HK; clear HB; clear HI0; have HO373 := n0_; have HK := n1_; have HB := n2_; have HI0 := n3_; clear n0_ n1_ n2_ n3_; clear hb; clear hk; clear hi))
   go_meet
   case rel => exact ⟨_, (t374), (t375), (t376), (by rfl), H', ⟨by omega⟩, ⟨HO373.out⟩, ⟨HI0.out⟩, ⟨HK.out⟩, ⟨HB.out⟩⟩
  ·replace c8 := Bool.eq_false_iff.mpr c8
   subst c8
   rw [if_neg (show ¬ (false = true) by decide)] at H
   have H1 := H
   clear H
   have H := H1
   clear H1
   have H' := Aside0.mk H
   clear H
   go_wp2
   go_meet
   case rel => exact ⟨_, (true), (s0_1), (s0_2), (by rfl), H', ⟨by omega⟩, ⟨HO373.out⟩, ⟨HI0.out⟩, ⟨HK.out⟩, ⟨HB.out⟩⟩
 case rest =>
  clear HC5
  try clear c0
  try clear c2
  try clear p2
  try clear c8
  obtain ⟨kq, x27_4, x1001_4, x1002_4, rfl, HA, HJ4, HO_6, HI0, HK, HB⟩ := hcut
  cases kq with
  | zero => exact absurd HA.out (by simp [spec_DrawRankOfSwapped_c.j0])
  | succ kj4 =>
   have H := HA.out
   clear HA
   simp only [spec_DrawRankOfSwapped_c.j0] at H
   by_cases c11 : x27_4 = true
   ·subst c11
    rw [if_pos rfl] at H
    have H1 := H
    clear H
    have H := H1
    clear H1
    replace H := Option.bind_eq_some_iff.mp H
    obtain ⟨t377, A120, H⟩ := H
    try dsimp +instances only at H
    replace H := H
    have A12 := Aside0.mk A120
    clear A120
    obtain ⟨y380, hy380⟩ : ∃ y_ : List Int, y_ = (([(-1), 0, 1, 2, 4611686018427387904] : List Int)) := ⟨_, rfl⟩
    replace H : ((spec_l1Cur_among.f s0_0 x1001_4 x1002_4 y380).bind fun bt383 => (if t377.length < 17592186044416 then (some ((t377 ++ [bt383.1]), bt383.2.1, bt383.2.2)) else (none))) = some (r1, r2, r3) := by first | (rw [hy380]; with_reducible exact H) | (have H2_ := (Option.bind_some _ _).symm.trans H; rw [hy380]; with_reducible exact H2_) | (have H2_ := (Option.bind_some _ _).symm.trans H; with_reducible exact H2_) | with_reducible exact H | (rw [hy380]; exact H) | exact H
    have Ny380 := Aside0.mk hy380
    clear hy380
    replace H := Option.bind_eq_some_iff.mp H
    obtain ⟨⟨t383, t384, t385⟩, A130, H⟩ := H
    try dsimp +instances only at H
    replace H := H
    have A13 := Aside0.mk A130
    clear A130
    by_cases c14 : t377.length < 17592186044416
    ·rw [if_pos c14] at H
     have LMc14 := Aside0.mk c14
     clear c14
     obtain ⟨y386, hy386⟩ : ∃ y_ : List Int, y_ = (t377 ++ [t383]) := ⟨_, rfl⟩
     replace H : (some (y386, t384, t385)) = some (r1, r2, r3) := by first | (rw [hy386]; with_reducible exact H) | (have H2_ := (Option.bind_some _ _).symm.trans H; rw [hy386]; with_reducible exact H2_) | (have H2_ := (Option.bind_some _ _).symm.trans H; with_reducible exact H2_) | with_reducible exact H | (rw [hy386]; exact H) | exact H
     have Ny386 := Aside0.mk hy386
     clear hy386
     simp only [Option.some.injEq, Prod.mk.injEq] at H
     obtain ⟨rfl, rfl, rfl⟩ := H
     obtain ⟨Ao15, co15, eo15⟩ := Kd.R_slice HO_6.out
     subst eo15
     go_wp2_with (first | ((with_reducible refine gate_callee (f := 61) rfl ?_); refine goesL_ (some 29) rfl rfl Try.func61 (by kernel_rfl) rfl #[.slice Ao15 t370.length co15] rfl (by (try simp only [List.map_toArray, List.map_cons, List.map_nil]); rfl) ?_; (with_reducible refine (spec_l1Own.calls _ _ t370 t377 _ ?side1 ?side2 A12.out).mono ?_); (case side1 => exact (Kd.R_reads' HO_6.out).2.2); (case side2 => exact (Kd.R_reads' HO_6.out).2.1); rintro e w16 ⟨v378, rfl, ho0, hb⟩; refine ⟨_, rfl, ?_⟩; have n0_ := Aside0.mk (Kd.R_elder' (HO_6.out) (Kd.R_base ho0) hb); have n1_ := Aside0.mk (Kd.R_lower (Kd.R_new' ho0 (Kd.R_lt (HO_6.out))) (keep_size (w := w) (g := g) (row := none) (HK.out))); have n2_ := Aside0.mk (IsS51.below (HI0.out) hb); have n3_ := Aside0.mk (KeepBut.trans (HK.out) (KeepBut.of_below hb g none) (.inl rfl)); have n4_ := Aside0.mk (below_step (HB.out) hb); clear HO_6; clear HI0; clear HK; clear HB; have HO_6 := n0_; have HO379 := n1_; have HI0 := n2_; have HK := n3_; have HB := n4_; clear n0_ n1_ n2_ n3_ n4_; clear hb; clear ho0) | ((with_reducible refine gate_dst (N := 31) rfl ?_); refine Kd.R_lit (Kd.int .i64) _ 3 ?hg (N := 31) ?hd (xs := ([(-1), 0, 1, 2, 4611686018427387904] : List Int)) (inner := [.int .i64 (-1), .int .i64 0, .int .i64 1, .int .i64 2, .int .i64 4611686018427387904]) (ok := fun _ => True) (okp := fun _ => True) ?hr ?hp (fun _ hk => hk) trivial (Below.refl _ _) (Nat.le_refl _) (by simp) ?_; (case hd => rfl); (case hg => rfl); (case hr => first | (go_simp; done) | (go_simp; rfl)); (case hp => exact (Reps.one (show Kd.M (Kd.int .i64) _ _ _ (-1) [.int .i64 (-1)] from rfl) (Reps.one (show Kd.M (Kd.int .i64) _ _ _ 0 [.int .i64 0] from rfl) (Reps.one (show Kd.M (Kd.int .i64) _ _ _ 1 [.int .i64 1] from rfl) (Reps.one (show Kd.M (Kd.int .i64) _ _ _ 2 [.int .i64 2] from rfl) (Reps.one (show Kd.M (Kd.int .i64) _ _ _ 4611686018427387904 [.int .i64 4611686018427387904] from rfl) (Reps.none _ _))))))); intro v381 w17 ho18 hb hg_ hnew_; clear hg_ hnew_; (first | rw [← Ny380.out] at ho18 | (simp only [Int.reduceToNat] at ho18; rw [← Ny380.out] at ho18)); have n0_ := Aside0.mk (Kd.R_elder' (HO_6.out) (Kd.R_base ho18) hb); have n1_ := Aside0.mk (Kd.R_elder' (HO379.out) (Kd.R_base ho18) hb); have n2_ := Aside0.mk (Kd.R_lower (Kd.R_new' (Kd.R_new' ho18 (Kd.R_lt (HO_6.out))) (Kd.R_lt (HO379.out))) (keep_size (w := w) (g := g) (row := none) (HK.out))); have n3_ := Aside0.mk (IsS51.below (HI0.out) hb); have n4_ := Aside0.mk (KeepBut.trans (HK.out) (KeepBut.of_below hb g none) (.inl rfl)); have n5_ := Aside0.mk (below_step (HB.out) hb); clear HO_6; clear HO379; clear HI0; clear HK; clear HB; have HO_6 := n0_; have HO379 := n1_; have HO382 := n2_; have HI0 := n3_; have HK := n4_; have HB := n5_; clear n0_ n1_ n2_ n3_ n4_ n5_; clear hb ho18; obtain ⟨Ao19, co19, eo19⟩ := Kd.R_slice HO382.out; subst eo19) | ((with_reducible refine gate_callee (f := 37) rfl ?_); refine goesL_ (some 32) rfl rfl Try.func37 (by kernel_rfl) rfl #[.pointer (some ⟨g, 0, none⟩), .slice Ao19 y380.length co19] rfl (by (try simp only [List.map_toArray, List.map_cons, List.map_nil]); rfl) ?_; (with_reducible refine (spec_l1Cur_among.calls g s0_0 x1001_4 x1002_4 _ _ y380 t383 t384 t385 w0 _ ?side1 ?side2 ?side3 ?side4 ?side5 A13.out).mono ?_); (case side1 => exact HI0.out); (case side2 => exact HB.out); (case side3 => exact (Kd.R_reads' HO382.out).2.2); (case side4 => exact (Kd.R_reads' HO382.out).2.1); (case side5 => exact far_slice (IsS51.own_ne HI0.out HO382.out (by decide))); rintro e w20 ⟨rfl, hi, hb, hk⟩; refine ⟨_, rfl, ?_⟩; have n0_ := Aside0.mk (Kd.R_mono (Kd.R_keep (IsS51.apart (show IsS51 w0 _ g s0_0 x1001_4 x1002_4 from HI0.out) (HO_6.out) (by decide)) hk (fun _ h => h.2)) (fun _ h => h.1)); have n1_ := Aside0.mk (Kd.R_mono (Kd.R_keep (IsS51.apart (show IsS51 w0 _ g s0_0 x1001_4 x1002_4 from HI0.out) (HO379.out) (by decide)) hk (fun _ h => h.2)) (fun _ h => h.1)); have n2_ := Aside0.mk (Kd.R_mono (Kd.R_keep (IsS51.apart (show IsS51 w0 _ g s0_0 x1001_4 x1002_4 from HI0.out) (HO382.out) (by decide)) hk (fun _ h => h.2)) (fun _ h => h.1)); have n3_ := Aside0.mk (KeepBut.trans (HK.out) hk (.inl rfl)); have n4_ := Aside0.mk (hb); have n5_ := Aside0.mk (hi); clear HO_6; clear HO379; clear HO382; clear HK; clear HB; clear HI0; have HO_6 := n0_; have HO379 := n1_; have HO382 := n2_; have HK := n3_; have HB := n4_; have HI0 := n5_; clear n0_ n1_ n2_ n3_ n4_ n5_; clear hb; clear hk; clear hi) | ((with_reducible refine gate_builtin (b := .append) (xs := #[.tmp 29, .tmp 33]) rfl ?_); at_builtin; refine Kd.R_append (Kd.int .i64) w.heap.size rfl (.tmp 29) (.tmp 33) 26 3 (.int .i64 0) 8 rfl Try.underlying26 info3 rfl (by decide) (by omega) v378 t377 t383 [.int .i64 t383] (fun k_ => some k_ ≠ (.slice Ao15 t370.length co15 : Value).ownBlock ∧ some k_ ≠ (.slice Ao19 y380.length co19 : Value).ownBlock) (fun _ => False) rfl rfl ?aP (fun _ hk => hk.elim) ?aF ?aO (Below.refl _ _) ?aS ?aL ?_; (case aP => exact rfl); (case aF => exact (fun k_ hk => ⟨Kd.fresh' (Kd.R_lt (HO_6.out)) k_ hk, Kd.fresh' (Kd.R_lt (HO382.out)) k_ hk⟩)); (case aO => exact (by exact Kd.R_mono HO379.out (fun _ hk => ⟨hk.1.2, hk.2⟩))); (case aS => exact (keep_size (w := w) (g := g) (row := none) (HK.out))); (case aL => have := LMc14.out; omega); intro v387 w21 ho hb hg hat; rw [← Ny386.out] at ho; have n0_ := Aside0.mk (Kd.R_after (ok := (fun k_ => some k_ ≠ (.slice Ao19 y380.length co19 : Value).ownBlock)) (by exact Kd.R_mono HO_6.out (fun _ hk => ⟨hk.2, hk.1.2⟩)) hg hat); have n1_ := Aside0.mk (IsS51.grown (HI0.out) hg (IsS51.own_ne HI0.out HO379.out (by decide))); have n2_ := Aside0.mk (Kd.R_after (ok := (fun k_ => some k_ ≠ (.slice Ao15 t370.length co15 : Value).ownBlock)) (by exact Kd.R_mono HO382.out (fun _ hk => ⟨hk.1.2, hk.2⟩)) hg hat); have n3_ := Aside0.mk (below_weaken (HB.out) HL.out hb); have n4_ := Aside0.mk (KeepBut.trans (HK.out) (KeepBut.of_grown hg g) (Kd.R_base2 HO379.out)); have n5_ := Aside0.mk (ho); clear HO_6; clear HI0; clear HO382; clear HB; clear HK; clear HO379; have HO_6 := n0_; have HI0 := n1_; have HO382 := n2_; have HB := n3_; have HK := n4_; have HO388 := n5_; clear n0_ n1_ n2_ n3_ n4_ n5_; clear ho hb hg hat))
     go_ret
     exact ⟨_, by rfl, Kd.R_lower (by exact Kd.R_mono HO388.out (fun _ hk => trivial)) HW0.out, HB.out⟩
    ·rw [if_neg c14] at H
     exact absurd H (by simp)
   ·replace c11 := Bool.eq_false_iff.mpr c11
    subst c11
    rw [if_neg (show ¬ (false = true) by decide)] at H
    have H1 := H
    clear H
    have H := H1
    clear H1
    simp only [Option.some.injEq, Prod.mk.injEq] at H
    obtain ⟨rfl, rfl, rfl⟩ := H
    go_wp2
    go_ret
    exact ⟨_, by rfl, Kd.R_lower (HO_6.out) HW0.out, HB.out⟩
def spec_DrawRankOfSwapped.f (k : Nat) (l0 : List Int) : Option (List Int) := (spec_DrawRankOfSwapped_c.f k l0 0 0 l0).map fun r_ => r_.1
theorem spec_DrawRankOfSwapped.calls (k : Nat) (A0 : Option Addr) (c0 : Nat) (l0 : List Int) (r1 : List Int) (w : World) (hr0 : Kd.C (Kd.int .u8) w A0 l0.length l0) (hc0 : l0.length ≤ c0) (h : spec_DrawRankOfSwapped.f k l0 = some r1) :
  Calls Try.prog 26 #[.slice A0 l0.length c0] w fun e w' => ∃ v0_ : Value, e = .returned (v0_) ∧ Kd.R (Kd.int .i64) 3 w' w.heap.size (fun _ => True) v0_ r1 ∧ Below w.heap.size w w' := by
 unfold spec_DrawRankOfSwapped.f at h
 obtain ⟨⟨y0, y1, y2⟩, h1, h2⟩ := Option.map_eq_some_iff.mp h
 obtain rfl := h2
 exact spec_DrawRankOfSwapped_c.at k A0 c0 l0 0 0 _ _ _ w rfl rfl hr0 hc0 h1
end Go.Proofs.Ytcgilnmljflebaa.A
