-- written by a program of this session's over the kit's print (xp.py)
import Derived.Test.YtcgilnmljflebaaAx0
import Derived.Test.YtcgilnmljflebaaAx1
import Derived.Test.YtcgilnmljflebaaAx10
import Derived.Test.YtcgilnmljflebaaAx11
-- halved
namespace Go.Proofs.Ytcgilnmljflebaa.A
-- slim
set_option maxHeartbeats 8000000
set_option maxRecDepth 100000
open Go.RowKit Go.Proofs.YtcgilnmljflebaaW.PrintWords Go.Proofs.YtcgilnmljflebaaW.PrintLast Go.Proofs.YtcgilnmljflebaaW.PrintMore
attribute [local go_sem] max2_int min2_int max_two min_two max_three min_three max_four min_four   -- for this text's walks alone
set_option linter.unusedVariables false
set_option linter.unusedSimpArgs false
mutual
def spec_RankOfMixed.j0 : Nat → List Int → List Int → Bool → Option (Int × Bool)
 | 0, _, _, _ => none
 | k + 1, x0, x1, x20 => if x20 = true then (some (0, false)) else (spec_RankOfMixed.l0 k x0 x1 x1 (x1.length : Int) 0)
def spec_RankOfMixed.l0 : Nat → List Int → List Int → List Int → Int → Int → Option (Int × Bool)
 | 0, _, _, _, _, _ => none
 | k + 1, x0, x1, x21, x22, x23 => if x23 < x22 then (if 0 ≤ x23 then (if x23 < (x21.length : Int) then (if x23 < (x0.length : Int) then ((spec_l1In.f (rd x21 x23) 0 (wrap64 ((rd x0 x23) - 1))).bind fun t521 => (if t521 = true then (spec_RankOfMixed.l0 k x0 x1 x21 x22 (wrap64 (x23 + 1))) else (some (0, false)))) else (none)) else (none)) else (none)) else (spec_RankOfMixed.l1 k x0 x1 0 (wrap64 ((x1.length : Int) - 1)))
def spec_RankOfMixed.l1 : Nat → List Int → List Int → Int → Int → Option (Int × Bool)
 | 0, _, _, _, _ => none
 | k + 1, x0, x1, x8, x9 => if x9 ≥ 0 then (if 0 ≤ (wrap64 (x9 + 1)) then (if (wrap64 (x9 + 1)) ≤ (x0.length : Int) then ((spec_nuProduct.f k (x0.drop ((wrap64 (x9 + 1)) : Int).toNat)).bind fun t523 => (if 0 ≤ x9 then (if x9 < (x1.length : Int) then (if (Int.tmod (rd x1 x9) 2) = 1 then (spec_RankOfMixed.l1 k x0 x1 (wrap64 ((wrap64 ((wrap64 (t523 - 1)) - x8)) + (wrap64 ((rd x1 x9) * t523)))) (wrap64 (x9 - 1))) else (spec_RankOfMixed.l1 k x0 x1 (wrap64 (x8 + (wrap64 ((rd x1 x9) * t523)))) (wrap64 (x9 - 1)))) else (none)) else (none))) else (none)) else (none)) else (some (x8, true))
end
def spec_RankOfMixed.f (k : Nat) (l0 : List Int) (l1 : List Int) : Option (Int × Bool) := (spec_nuLimits.f k l0).bind fun t518 => (if t518 = true then (spec_RankOfMixed.j0 k l0 l1 ((l1.length : Int) != (l0.length : Int))) else (spec_RankOfMixed.j0 k l0 l1 true))
theorem spec_RankOfMixed.calls (k : Nat) (A0 : Option Addr) (c0 : Nat) (l0 : List Int) (A1 : Option Addr) (c1 : Nat) (l1 : List Int) (r1 : Int) (r2 : Bool) (w : World) (hr0 : Kd.C (Kd.int .i64) w A0 l0.length l0) (hc0 : l0.length ≤ c0) (hr1 : Kd.C (Kd.int .i64) w A1 l1.length l1) (hc1 : l1.length ≤ c1) (h : spec_RankOfMixed.f k l0 l1 = some (r1, r2)) :
  Calls Try.prog 34 #[.slice A0 l0.length c0, .slice A1 l1.length c1] w fun e w' => e = .returned (.tuple #[.int .i64 r1, .bool r2]) ∧ Drawn0 w w' := by
 have HR0 := Aside0.mk hr0
 have HC0 := Aside0.mk hc0
 clear hr0 hc0
 have HR1 := Aside0.mk hr1
 have HC1 := Aside0.mk hc1
 clear hr1 hc1
 unfold spec_RankOfMixed.f at h
 have H := h
 clear h
 have HC3 := Aside0.mk H
 clear H
 go_enter Try.func34, Try.ntmps34
 go_upto_region 1 with (fail)
 go_cut [20] (fun v20 wc => ∃ (kq : Nat) (x20_2 : Bool), v20 = .bool x20_2 ∧ Aside0 (spec_RankOfMixed.j0 kq l0 l1 x20_2 = some (r1, r2)) ∧ Aside0 (kq ≤ k) ∧ Drawn0 w wc)
 case first =>
  have H := HC3.out
  clear HC3
  replace H := Option.bind_eq_some_iff.mp H
  obtain ⟨t518, A40, H⟩ := H
  try dsimp +instances only at H
  replace H := H
  have A4 := Aside0.mk A40
  clear A40
  by_cases c5 : t518 = true
  ·subst c5
   rw [if_pos rfl] at H
   have H1 := H
   clear H
   have H := H1
   clear H1
   have H' := Aside0.mk H
   clear H
   go_wp2_with (first | ((with_reducible refine gate_callee (f := 67) rfl ?_); refine goesL_ (some 12) rfl rfl Try.func67 (by kernel_rfl) rfl #[.slice A0 l0.length c0] rfl (by (try simp only [List.map_toArray, List.map_cons, List.map_nil]); rfl) ?_; (with_reducible refine (spec_nuLimits.calls k _ _ l0 true _ ?side1 ?side2 A4.out).mono ?_); (case side1 => exact HR0.out); (case side2 => exact HC0.out); rintro e w' ⟨rfl, ⟨nd, rfl⟩⟩; refine ⟨_, rfl, ?_⟩))
   go_meet
   case rel => exact ⟨_, (((l1.length : Int) != (l0.length : Int))), (by rfl), H', ⟨by omega⟩, by (apply Drawn0.step; exact Drawn0.refl _)⟩
  ·replace c5 := Bool.eq_false_iff.mpr c5
   subst c5
   rw [if_neg (show ¬ (false = true) by decide)] at H
   have H1 := H
   clear H
   have H := H1
   clear H1
   have H' := Aside0.mk H
   clear H
   go_wp2_with (first | ((with_reducible refine gate_callee (f := 67) rfl ?_); refine goesL_ (some 12) rfl rfl Try.func67 (by kernel_rfl) rfl #[.slice A0 l0.length c0] rfl (by (try simp only [List.map_toArray, List.map_cons, List.map_nil]); rfl) ?_; (with_reducible refine (spec_nuLimits.calls k _ _ l0 false _ ?side1 ?side2 A4.out).mono ?_); (case side1 => exact HR0.out); (case side2 => exact HC0.out); rintro e w' ⟨rfl, ⟨nd, rfl⟩⟩; refine ⟨_, rfl, ?_⟩))
   go_meet
   case rel => exact ⟨_, (true), (by rfl), H', ⟨by omega⟩, by (apply Drawn0.step; exact Drawn0.refl _)⟩
 case rest =>
  clear HC3
  try clear c1
  try clear p2
  try clear c3
  try clear c5
  obtain ⟨kq, x20_2, rfl, HA, HJ2, ⟨mc2, rfl⟩⟩ := hcut
  cases kq with
  | zero => exact absurd HA.out (by simp [spec_RankOfMixed.j0])
  | succ kj2 =>
   have H := HA.out
   clear HA
   simp only [spec_RankOfMixed.j0] at H
   by_cases c6 : x20_2 = true
   ·subst c6
    rw [if_pos rfl] at H
    have H1 := H
    clear H
    have H := H1
    clear H1
    simp only [Option.some.injEq, Prod.mk.injEq] at H
    obtain ⟨rfl, rfl⟩ := H
    go_wp2
    go_ret2
    exact ⟨by rfl, by (apply Drawn0.step; exact Drawn0.refl _)⟩
   ·replace c6 := Bool.eq_false_iff.mpr c6
    subst c6
    rw [if_neg (show ¬ (false = true) by decide)] at H
    have H1 := H
    clear H
    have H := H1
    clear H1
    have H' := Aside0.mk H
    clear H
    go_wp2
    go_loopg [23] kj2 (fun kq v23 w' => ∃ (x23_2 : Int), v23 = .int .i64 x23_2 ∧ Aside0 (spec_RankOfMixed.l0 kq l0 l1 l1 (l1.length : Int) x23_2 = some (r1, r2)) ∧ Aside0 (kq ≤ kj2) ∧ Drawn0 w w')
    case atStart => exact ⟨(0), (by rfl), H', ⟨Nat.le_refl _⟩, by (apply Drawn0.step; exact Drawn0.refl _)⟩
    case round =>
     clear H'
     try clear c1
     try clear c2
     try clear p2
     try clear c3
     try clear c5
     try clear c6
     try clear p2
     obtain ⟨x23_2, rfl, HA, HK2, ⟨m2, rfl⟩⟩ := hrel
     cases gk with
     | zero => exact absurd HA.out (by simp [spec_RankOfMixed.l0])
     | succ k2 =>
      have H := HA.out
      clear HA
      simp only [spec_RankOfMixed.l0] at H
      by_cases c7 : x23_2 < (l1.length : Int)
      ·rw [if_pos c7] at H
       have c7b0 : decide (x23_2 < (l1.length : Int)) = true := decide_eq_true c7
       clear c7
       by_cases c8 : 0 ≤ x23_2
       ·rw [if_pos c8] at H
        have c8b0 : decide (0 ≤ x23_2) = true := decide_eq_true c8
        clear c8
        by_cases c9 : x23_2 < (l1.length : Int)
        ·rw [if_pos c9] at H
         have c9b0 : decide (x23_2 < (l1.length : Int)) = true := decide_eq_true c9
         clear c9
         by_cases c10 : x23_2 < (l0.length : Int)
         ·rw [if_pos c10] at H
          have c10b0 : decide (x23_2 < (l0.length : Int)) = true := decide_eq_true c10
          clear c10
          replace H := Option.bind_eq_some_iff.mp H
          obtain ⟨t521, A110, H⟩ := H
          try dsimp +instances only at H
          replace H := H
          have A11 := Aside0.mk A110
          clear A110
          by_cases c12 : t521 = true
          ·subst c12
           rw [if_pos rfl] at H
           have H1 := H
           clear H
           have H := H1
           clear H1
           have H' := Aside0.mk H
           clear H
           have p519 : 0 ≤ (x23_2 : Int) := of_decide_eq_true (by with_reducible assumption)
           have q519 : x23_2 < (l1.length : Int) := of_decide_eq_true (by with_reducible assumption)
           obtain ⟨ad519, e519, hx519_0⟩ := Kd.at_int HR1.out x23_2 p519 q519
           cases e519
           replace p519 := eq_true p519
           replace q519 := eq_true q519
           have p520 : 0 ≤ (x23_2 : Int) := of_decide_eq_true (by with_reducible assumption)
           have q520 : x23_2 < (l0.length : Int) := of_decide_eq_true (by with_reducible assumption)
           obtain ⟨ad520, e520, hx520_0⟩ := Kd.at_int HR0.out x23_2 p520 q520
           cases e520
           replace p520 := eq_true p520
           replace q520 := eq_true q520
           go_wp2_with (first | ((with_reducible refine gate_callee (f := 42) rfl ?_); refine goesL_ (some 34) rfl rfl Try.func42 (by kernel_rfl) rfl #[.int .i64 (rd l1 x23_2), .int .i64 0, .int .i64 (wrap64 ((rd l0 x23_2) - 1))] rfl (by (try simp only [List.map_toArray, List.map_cons, List.map_nil]); rfl) ?_; (with_reducible refine (spec_l1In.calls (rd l1 x23_2) 0 (wrap64 ((rd l0 x23_2) - 1)) true _ A11.out).mono ?_); rintro e w' ⟨rfl, ⟨nd, rfl⟩⟩; refine ⟨_, rfl, ?_⟩))
           go_roundg k2
           case measure => have := HJ2.out; have := HK2.out; omega
           case rel => exact ⟨(wrap64 (x23_2 + 1)), (by rfl), H', ⟨by have := HJ2.out; have := HK2.out; omega⟩, by (apply Drawn0.step; exact Drawn0.refl _)⟩
          ·replace c12 := Bool.eq_false_iff.mpr c12
           subst c12
           rw [if_neg (show ¬ (false = true) by decide)] at H
           have H1 := H
           clear H
           have H := H1
           clear H1
           simp only [Option.some.injEq, Prod.mk.injEq] at H
           obtain ⟨rfl, rfl⟩ := H
           have p519 : 0 ≤ (x23_2 : Int) := of_decide_eq_true (by with_reducible assumption)
           have q519 : x23_2 < (l1.length : Int) := of_decide_eq_true (by with_reducible assumption)
           obtain ⟨ad519, e519, hx519_0⟩ := Kd.at_int HR1.out x23_2 p519 q519
           cases e519
           replace p519 := eq_true p519
           replace q519 := eq_true q519
           have p520 : 0 ≤ (x23_2 : Int) := of_decide_eq_true (by with_reducible assumption)
           have q520 : x23_2 < (l0.length : Int) := of_decide_eq_true (by with_reducible assumption)
           obtain ⟨ad520, e520, hx520_0⟩ := Kd.at_int HR0.out x23_2 p520 q520
           cases e520
           replace p520 := eq_true p520
           replace q520 := eq_true q520
           go_wp2_with (first | ((with_reducible refine gate_callee (f := 42) rfl ?_); refine goesL_ (some 34) rfl rfl Try.func42 (by kernel_rfl) rfl #[.int .i64 (rd l1 x23_2), .int .i64 0, .int .i64 (wrap64 ((rd l0 x23_2) - 1))] rfl (by (try simp only [List.map_toArray, List.map_cons, List.map_nil]); rfl) ?_; (with_reducible refine (spec_l1In.calls (rd l1 x23_2) 0 (wrap64 ((rd l0 x23_2) - 1)) false _ A11.out).mono ?_); rintro e w' ⟨rfl, ⟨nd, rfl⟩⟩; refine ⟨_, rfl, ?_⟩))
           go_ret2
           exact ⟨by rfl, by (apply Drawn0.step; exact Drawn0.refl _)⟩
         ·rw [if_neg c10] at H
          exact absurd H (by simp)
        ·rw [if_neg c9] at H
         exact absurd H (by simp)
       ·rw [if_neg c8] at H
        exact absurd H (by simp)
      ·rw [if_neg c7] at H
       have c7b0 : decide (x23_2 < (l1.length : Int)) = false := decide_eq_false c7
       clear c7
       have H' := Aside0.mk H
       clear H
       go_wp2
       go_loopg [8, 9] k2 (fun kq v8 v9 w' => ∃ (x8_3 : Int) (x9_3 : Int), v8 = .int .i64 x8_3 ∧ v9 = .int .i64 x9_3 ∧ Aside0 (spec_RankOfMixed.l1 kq l0 l1 x8_3 x9_3 = some (r1, r2)) ∧ Aside0 (kq ≤ k2) ∧ Drawn0 w w')
       case atStart => exact ⟨(0), (wrap64 ((l1.length : Int) - 1)), (by rfl), (by rfl), H', ⟨Nat.le_refl _⟩, by (apply Drawn0.step; exact Drawn0.refl _)⟩
       case round =>
        clear H'
        try clear c1
        try clear c2
        try clear p2
        try clear c3
        try clear c4
        try clear c5
        try clear p5
        try clear q5
        try clear hx5
        try clear c6
        try clear p6
        try clear c7
        try clear c7b0
        try clear c8
        try clear c8b0
        try clear c9
        try clear c9b0
        try clear c10
        try clear c10b0
        try clear c12
        try clear hx519_0
        try clear hx520_0
        try clear p2
        try clear p519
        try clear p520
        try clear q519
        try clear q520
        obtain ⟨x8_3, x9_3, rfl, rfl, HA, HK3, ⟨m3, rfl⟩⟩ := hrel
        cases gk with
        | zero => exact absurd HA.out (by simp [spec_RankOfMixed.l1])
        | succ k3 =>
         have H := HA.out
         clear HA
         simp only [spec_RankOfMixed.l1] at H
         by_cases c13 : x9_3 ≥ 0
         ·rw [if_pos c13] at H
          have c13b0 : decide (0 ≤ x9_3) = true := decide_eq_true c13
          clear c13
          obtain ⟨ji14, hji14⟩ : ∃ j_ : Int, (wrap64 (x9_3 + 1)) = j_ := ⟨_, rfl⟩
          replace H : (if 0 ≤ (ji14) then (if (ji14) ≤ (l0.length : Int) then ((spec_nuProduct.f k3 (l0.drop ((ji14) : Int).toNat)).bind fun t523 => (if 0 ≤ x9_3 then (if x9_3 < (l1.length : Int) then (if (Int.tmod (rd l1 x9_3) 2) = 1 then (spec_RankOfMixed.l1 k3 l0 l1 (wrap64 ((wrap64 ((wrap64 (t523 - 1)) - x8_3)) + (wrap64 ((rd l1 x9_3) * t523)))) (wrap64 (x9_3 - 1))) else (spec_RankOfMixed.l1 k3 l0 l1 (wrap64 (x8_3 + (wrap64 ((rd l1 x9_3) * t523)))) (wrap64 (x9_3 - 1)))) else (none)) else (none))) else (none)) else (none)) = some (r1, r2) := by first | (rw [hji14] at H; exact H) | (simp only [hji14] at H ⊢; exact H)
          have hji14w : (IntKind.i64.wrap (x9_3 + 1)) = ji14 := (i64_w _).trans hji14
          by_cases c15 : 0 ≤ (ji14)
          ·rw [if_pos c15] at H
           have c15b0 := eq_true c15
           have c15b1 : decide (0 ≤ (ji14)) = true := decide_eq_true c15
           clear c15
           by_cases c16 : (ji14) ≤ (l0.length : Int)
           ·rw [if_pos c16] at H
            have c16b0 := eq_true c16
            have c16b1 : decide ((ji14) ≤ (l0.length : Int)) = true := decide_eq_true c16
            clear c16
            replace H := Option.bind_eq_some_iff.mp H
            obtain ⟨t523, A170, H⟩ := H
            try dsimp +instances only at H
            replace H := H
            have A17 := Aside0.mk A170
            clear A170
            by_cases c18 : 0 ≤ x9_3
            ·rw [if_pos c18] at H
             have c18b0 : decide (0 ≤ x9_3) = true := decide_eq_true c18
             clear c18
             by_cases c19 : x9_3 < (l1.length : Int)
             ·rw [if_pos c19] at H
              have c19b0 : decide (x9_3 < (l1.length : Int)) = true := decide_eq_true c19
              clear c19
              by_cases c20 : (Int.tmod (rd l1 x9_3) 2) = 1
              ·rw [if_pos c20] at H
               have c20b0 : ((Int.tmod (rd l1 x9_3) 2) == 1) = true := beq_iff_eq.mpr c20
               have c20b1 : ((Int.tmod (rd l1 x9_3) 2) != 1) = false := bne_eq_false_iff_eq.mpr c20
               clear c20
               have H' := Aside0.mk H
               clear H
               obtain ⟨i021, hi021, _, hsz21, _⟩ := info_parts info3
               obtain ⟨A21, hcut21, hA21, hC21⟩ := print_drop_of (P := Try.prog) (Value.int .i64) 0 26 3 .i64 Try.underlying26 hi021 hsz21 A0 c0 l0 (ji14) (of_decide_eq_true (by with_reducible assumption)) (of_decide_eq_true (by with_reducible assumption)) HC0.out
               have HR522 := Aside0.mk (Kd.C_of_reads (h1 := fun _ => rfl) (hA21 _ (Kd.reads_of_C HR0.out)))
               have HC522 := Aside0.mk hC21
               clear hA21 hC21 hi021 hsz21
               go_wp2_with (first | ((with_reducible refine gate_callee (f := 68) rfl ?_); refine goesL_ (some 48) rfl rfl Try.func68 (by kernel_rfl) rfl #[.slice A21 (l0.drop ((ji14) : Int).toNat).length (c0 - (ji14).toNat)] rfl (by (try simp only [List.map_toArray, List.map_cons, List.map_nil]); first | done | (rw [show (l0.drop ((ji14) : Int).toNat).length = (l0.length - (ji14).toNat) from List.length_drop] <;> rfl) | (simp only [hji14]; rfl) | rfl | (simp only [List.length_drop, List.length_take]; rfl)) ?_; (with_reducible refine (spec_nuProduct.calls k3 _ _ (l0.drop ((ji14) : Int).toNat) t523 _ ?side1 ?side2 A17.out).mono ?_); (case side1 => exact HR522.out); (case side2 => exact HC522.out); rintro e w' ⟨rfl, ⟨nd, rfl⟩⟩; refine ⟨_, rfl, ?_⟩; have p524 : 0 ≤ (x9_3 : Int) := of_decide_eq_true (by with_reducible assumption); have q524 : x9_3 < (l1.length : Int) := of_decide_eq_true (by with_reducible assumption); obtain ⟨ad524, e524, hx524_0⟩ := Kd.at_int HR1.out x9_3 p524 q524; cases e524; replace p524 := eq_true p524; replace q524 := eq_true q524; have p525 : 0 ≤ (x9_3 : Int) := of_decide_eq_true (by with_reducible assumption); have q525 : x9_3 < (l1.length : Int) := of_decide_eq_true (by with_reducible assumption); obtain ⟨ad525, e525, hx525_0⟩ := Kd.at_int HR1.out x9_3 p525 q525; obtain rfl : ad524 = ad525 := (by injection e525); replace p525 := eq_true p525; replace q525 := eq_true q525))
               go_roundg k3
               case measure => have := HJ2.out; have := HK2.out; have := HK3.out; omega
               case rel => exact ⟨(wrap64 ((wrap64 ((wrap64 (t523 - 1)) - x8_3)) + (wrap64 ((rd l1 x9_3) * t523)))), (wrap64 (x9_3 - 1)), (by rfl), (by rfl), H', ⟨by have := HJ2.out; have := HK2.out; have := HK3.out; omega⟩, by (apply Drawn0.step; exact Drawn0.refl _)⟩
              ·rw [if_neg c20] at H
               have c20b0 : ((Int.tmod (rd l1 x9_3) 2) == 1) = false := beq_eq_false_iff_ne.mpr c20
               have c20b1 : ((Int.tmod (rd l1 x9_3) 2) != 1) = true := bne_iff_ne.mpr c20
               have H' := Aside0.mk H
               clear H
               obtain ⟨i022, hi022, _, hsz22, _⟩ := info_parts info3
               obtain ⟨A22, hcut22, hA22, hC22⟩ := print_drop_of (P := Try.prog) (Value.int .i64) 0 26 3 .i64 Try.underlying26 hi022 hsz22 A0 c0 l0 (ji14) (of_decide_eq_true (by with_reducible assumption)) (of_decide_eq_true (by with_reducible assumption)) HC0.out
               have HR522 := Aside0.mk (Kd.C_of_reads (h1 := fun _ => rfl) (hA22 _ (Kd.reads_of_C HR0.out)))
               have HC522 := Aside0.mk hC22
               clear hA22 hC22 hi022 hsz22
               go_wp2_with (first | ((with_reducible refine gate_callee (f := 68) rfl ?_); refine goesL_ (some 48) rfl rfl Try.func68 (by kernel_rfl) rfl #[.slice A22 (l0.drop ((ji14) : Int).toNat).length (c0 - (ji14).toNat)] rfl (by (try simp only [List.map_toArray, List.map_cons, List.map_nil]); first | done | (rw [show (l0.drop ((ji14) : Int).toNat).length = (l0.length - (ji14).toNat) from List.length_drop] <;> rfl) | (simp only [hji14]; rfl) | rfl | (simp only [List.length_drop, List.length_take]; rfl)) ?_; (with_reducible refine (spec_nuProduct.calls k3 _ _ (l0.drop ((ji14) : Int).toNat) t523 _ ?side1 ?side2 A17.out).mono ?_); (case side1 => exact HR522.out); (case side2 => exact HC522.out); rintro e w' ⟨rfl, ⟨nd, rfl⟩⟩; refine ⟨_, rfl, ?_⟩; have p524 : 0 ≤ (x9_3 : Int) := of_decide_eq_true (by with_reducible assumption); have q524 : x9_3 < (l1.length : Int) := of_decide_eq_true (by with_reducible assumption); obtain ⟨ad524, e524, hx524_0⟩ := Kd.at_int HR1.out x9_3 p524 q524; cases e524; replace p524 := eq_true p524; replace q524 := eq_true q524; have p526 : 0 ≤ (x9_3 : Int) := of_decide_eq_true (by with_reducible assumption); have q526 : x9_3 < (l1.length : Int) := of_decide_eq_true (by with_reducible assumption); obtain ⟨ad526, e526, hx526_0⟩ := Kd.at_int HR1.out x9_3 p526 q526; obtain rfl : ad524 = ad526 := (by injection e526); replace p526 := eq_true p526; replace q526 := eq_true q526))
               go_roundg k3
               case measure => have := HJ2.out; have := HK2.out; have := HK3.out; omega
               case rel => exact ⟨(wrap64 (x8_3 + (wrap64 ((rd l1 x9_3) * t523)))), (wrap64 (x9_3 - 1)), (by rfl), (by rfl), H', ⟨by have := HJ2.out; have := HK2.out; have := HK3.out; omega⟩, by (apply Drawn0.step; exact Drawn0.refl _)⟩
             ·rw [if_neg c19] at H
              exact absurd H (by simp)
            ·rw [if_neg c18] at H
             exact absurd H (by simp)
           ·rw [if_neg c16] at H
            exact absurd H (by simp)
          ·rw [if_neg c15] at H
           exact absurd H (by simp)
         ·rw [if_neg c13] at H
          have c13b0 : decide (0 ≤ x9_3) = false := decide_eq_false c13
          clear c13
          simp only [Option.some.injEq, Prod.mk.injEq] at H
          obtain ⟨rfl, rfl⟩ := H
          go_wp2
          go_ret2
          exact ⟨by rfl, by (apply Drawn0.step; exact Drawn0.refl _)⟩
def laws_xParts.l0 : Nat → List Int → List Int → Int → Int → Int → Option (Int)
 | 0, _, _, _, _, _ => none
 | k + 1, x0, x1, x5, x8, x9 => if x9 < x8 then (if 0 ≤ x9 then (if x9 < (x0.length : Int) then (if x9 < (x1.length : Int) then (if (rd x0 x9) = (rd x1 x9) then (laws_xParts.l0 k x0 x1 x5 x8 (wrap64 (x9 + 1))) else (laws_xParts.l0 k x0 x1 (wrap64 (x5 + 1)) x8 (wrap64 (x9 + 1)))) else (none)) else (none)) else (none)) else (some x5)
def laws_xParts.f (k : Nat) (l0 : List Int) (l1 : List Int) : Option (Int) := laws_xParts.l0 k l0 l1 0 (l0.length : Int) 0
theorem laws_xParts.calls (k : Nat) (A0 : Option Addr) (c0 : Nat) (l0 : List Int) (A1 : Option Addr) (c1 : Nat) (l1 : List Int) (r : Int) (w : World) (hr0 : Kd.C (Kd.int .i64) w A0 l0.length l0) (hc0 : l0.length ≤ c0) (hr1 : Kd.C (Kd.int .i64) w A1 l1.length l1) (hc1 : l1.length ≤ c1) (h : laws_xParts.f k l0 l1 = some r) :
  Calls Try.prog 35 #[.slice A0 l0.length c0, .slice A1 l1.length c1] w fun e w' => e = .returned (.int .i64 r) ∧ Drawn0 w w' := by
 have HR0 := Aside0.mk hr0
 have HC0 := Aside0.mk hc0
 clear hr0 hc0
 have HR1 := Aside0.mk hr1
 have HC1 := Aside0.mk hc1
 clear hr1 hc1
 unfold laws_xParts.f at h
 have H := h
 clear h
 have H' := Aside0.mk H
 clear H
 go_enter Try.func35, Try.ntmps35
 go_wp2
 repeat (go_quiet (fail); try go_wp2)
 go_loopg [5, 9] k (fun kq v5 v9 w' => ∃ (x5_1 : Int) (x9_1 : Int), v5 = .int .i64 x5_1 ∧ v9 = .int .i64 x9_1 ∧ Aside0 (laws_xParts.l0 kq l0 l1 x5_1 (l0.length : Int) x9_1 = some r) ∧ Aside0 (kq ≤ k) ∧ Drawn0 w w')
 case atStart => exact ⟨(0), (0), (by rfl), (by rfl), H', ⟨Nat.le_refl _⟩, by exact Drawn0.refl _⟩
 case round =>
  clear H'
  try clear c1
  try clear p2
  obtain ⟨x5_1, x9_1, rfl, rfl, HA, HK1, ⟨m1, rfl⟩⟩ := hrel
  cases gk with
  | zero => exact absurd HA.out (by simp [laws_xParts.l0])
  | succ k1 =>
   have H := HA.out
   clear HA
   simp only [laws_xParts.l0] at H
   by_cases c3 : x9_1 < (l0.length : Int)
   ·rw [if_pos c3] at H
    have c3b0 : decide (x9_1 < (l0.length : Int)) = true := decide_eq_true c3
    clear c3
    by_cases c4 : 0 ≤ x9_1
    ·rw [if_pos c4] at H
     have c4b0 : decide (0 ≤ x9_1) = true := decide_eq_true c4
     clear c4
     by_cases c5 : x9_1 < (l0.length : Int)
     ·rw [if_pos c5] at H
      have c5b0 : decide (x9_1 < (l0.length : Int)) = true := decide_eq_true c5
      clear c5
      by_cases c6 : x9_1 < (l1.length : Int)
      ·rw [if_pos c6] at H
       have c6b0 : decide (x9_1 < (l1.length : Int)) = true := decide_eq_true c6
       clear c6
       by_cases c7 : (rd l0 x9_1) = (rd l1 x9_1)
       ·rw [if_pos c7] at H
        have c7b0 : ((rd l0 x9_1) == (rd l1 x9_1)) = true := beq_iff_eq.mpr c7
        have c7b1 : ((rd l0 x9_1) != (rd l1 x9_1)) = false := bne_eq_false_iff_eq.mpr c7
        clear c7
        have H' := Aside0.mk H
        clear H
        have p527 : 0 ≤ (x9_1 : Int) := of_decide_eq_true (by with_reducible assumption)
        have q527 : x9_1 < (l0.length : Int) := of_decide_eq_true (by with_reducible assumption)
        obtain ⟨ad527, e527, hx527_0⟩ := Kd.at_int HR0.out x9_1 p527 q527
        cases e527
        replace p527 := eq_true p527
        replace q527 := eq_true q527
        have p528 : 0 ≤ (x9_1 : Int) := of_decide_eq_true (by with_reducible assumption)
        have q528 : x9_1 < (l1.length : Int) := of_decide_eq_true (by with_reducible assumption)
        obtain ⟨ad528, e528, hx528_0⟩ := Kd.at_int HR1.out x9_1 p528 q528
        cases e528
        replace p528 := eq_true p528
        replace q528 := eq_true q528
        go_wp2
        repeat (go_quiet (fail); try go_wp2)
        go_roundg k1
        case measure => have := HK1.out; omega
        case rel => exact ⟨(x5_1), (wrap64 (x9_1 + 1)), (by rfl), (by rfl), H', ⟨by have := HK1.out; omega⟩, by (apply Drawn0.step; exact Drawn0.refl _)⟩
       ·rw [if_neg c7] at H
        have c7b0 : ((rd l0 x9_1) == (rd l1 x9_1)) = false := beq_eq_false_iff_ne.mpr c7
        have c7b1 : ((rd l0 x9_1) != (rd l1 x9_1)) = true := bne_iff_ne.mpr c7
        have H' := Aside0.mk H
        clear H
        have p527 : 0 ≤ (x9_1 : Int) := of_decide_eq_true (by with_reducible assumption)
        have q527 : x9_1 < (l0.length : Int) := of_decide_eq_true (by with_reducible assumption)
        obtain ⟨ad527, e527, hx527_0⟩ := Kd.at_int HR0.out x9_1 p527 q527
        cases e527
        replace p527 := eq_true p527
        replace q527 := eq_true q527
        have p528 : 0 ≤ (x9_1 : Int) := of_decide_eq_true (by with_reducible assumption)
        have q528 : x9_1 < (l1.length : Int) := of_decide_eq_true (by with_reducible assumption)
        obtain ⟨ad528, e528, hx528_0⟩ := Kd.at_int HR1.out x9_1 p528 q528
        cases e528
        replace p528 := eq_true p528
        replace q528 := eq_true q528
        go_wp2
        repeat (go_quiet (fail); try go_wp2)
        go_roundg k1
        case measure => have := HK1.out; omega
        case rel => exact ⟨(wrap64 (x5_1 + 1)), (wrap64 (x9_1 + 1)), (by rfl), (by rfl), H', ⟨by have := HK1.out; omega⟩, by (apply Drawn0.step; exact Drawn0.refl _)⟩
      ·rw [if_neg c6] at H
       exact absurd H (by simp)
     ·rw [if_neg c5] at H
      exact absurd H (by simp)
    ·rw [if_neg c4] at H
     exact absurd H (by simp)
   ·rw [if_neg c3] at H
    have c3b0 : decide (x9_1 < (l0.length : Int)) = false := decide_eq_false c3
    clear c3
    obtain rfl := Option.some.inj H
    go_wp2
    repeat (go_quiet (fail); try go_wp2)
    go_ret
    exact ⟨by rfl, by (apply Drawn0.step; exact Drawn0.refl _)⟩
end Go.Proofs.Ytcgilnmljflebaa.A
