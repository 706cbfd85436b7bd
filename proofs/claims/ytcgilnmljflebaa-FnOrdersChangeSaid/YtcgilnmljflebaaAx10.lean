-- written by a program of this session's over the kit's print (xp.py)
import Derived.Test.YtcgilnmljflebaaAx0
import Derived.Test.YtcgilnmljflebaaAx1
import Derived.Test.YtcgilnmljflebaaAx9
-- halved
namespace Go.Proofs.Ytcgilnmljflebaa.A
-- slim
set_option maxHeartbeats 8000000
set_option maxRecDepth 100000
open Go.RowKit Go.Proofs.YtcgilnmljflebaaW.PrintWords Go.Proofs.YtcgilnmljflebaaW.PrintLast Go.Proofs.YtcgilnmljflebaaW.PrintMore
attribute [local go_sem] max2_int min2_int max_two min_two max_three min_three max_four min_four   -- for this text's walks alone
set_option linter.unusedVariables false
set_option linter.unusedSimpArgs false
mutual
def spec_RankOfSwapped.j0 : Nat → List Int → Int → Bool → Option (Int × Bool)
 | 0, _, _, _ => none
 | k + 1, x0, x4, x23 => if x23 = true then (some (0, false)) else (spec_RankOfSwapped.l0 k x0 x4 x0 (x0.length : Int) 0)
def spec_RankOfSwapped.l0 : Nat → List Int → Int → List Int → Int → Int → Option (Int × Bool)
 | 0, _, _, _, _, _ => none
 | k + 1, x0, x4, x24, x25, x26 => if x26 < x25 then (if 0 ≤ x26 then (if x26 < (x24.length : Int) then (if x26 ≤ (x0.length : Int) then ((spec_l1Has.f k (x0.take (x26 : Int).toNat) (rd x24 x26)).bind fun t405 => (if t405 = true then (some (0, false)) else (spec_RankOfSwapped.l0 k x0 x4 x24 x25 (wrap64 (x26 + 1))))) else (none)) else (none)) else (none)) else (spec_RankOfSwapped.l1 k x0 x4 0 1)
def spec_RankOfSwapped.l1 : Nat → List Int → Int → Int → Int → Option (Int × Bool)
 | 0, _, _, _, _ => none
 | k + 1, x0, x4, x7, x8 => if x8 ≤ x4 then (spec_RankOfSwapped.l2 k x0 x4 x7 x8 0 x0 (x0.length : Int) 0) else (some (x7, true))
def spec_RankOfSwapped.l2 : Nat → List Int → Int → Int → Int → Int → List Int → Int → Int → Option (Int × Bool)
 | 0, _, _, _, _, _, _, _, _ => none
 | k + 1, x0, x4, x7, x8, x9, x42, x43, x44 => if x44 < x43 then (if 0 ≤ x44 then (if x44 < (x42.length : Int) then (if (rd x42 x44) = (wrap64 (x8 - 1)) then (if (Int.tmod x7 2) = 0 then (spec_RankOfSwapped.l1 k x0 x4 (wrap64 ((wrap64 (x7 * x8)) + (wrap64 ((wrap64 (x8 - 1)) - x9)))) (wrap64 (x8 + 1))) else (spec_RankOfSwapped.l1 k x0 x4 (wrap64 ((wrap64 (x7 * x8)) + x9)) (wrap64 (x8 + 1)))) else (if (rd x42 x44) < x8 then (spec_RankOfSwapped.l2 k x0 x4 x7 x8 (wrap64 (x9 + 1)) x42 x43 (wrap64 (x44 + 1))) else (spec_RankOfSwapped.l2 k x0 x4 x7 x8 x9 x42 x43 (wrap64 (x44 + 1))))) else (none)) else (none)) else (if (Int.tmod x7 2) = 0 then (spec_RankOfSwapped.l1 k x0 x4 (wrap64 ((wrap64 (x7 * x8)) + (wrap64 ((wrap64 (x8 - 1)) - x9)))) (wrap64 (x8 + 1))) else (spec_RankOfSwapped.l1 k x0 x4 (wrap64 ((wrap64 (x7 * x8)) + x9)) (wrap64 (x8 + 1))))
end
def spec_RankOfSwapped.f (k : Nat) (l0 : List Int) : Option (Int × Bool) := (spec_l1In.f (l0.length : Int) 1 10).bind fun t401 => (if t401 = true then ((spec_l1All.f k l0 0 (wrap64 ((l0.length : Int) - 1))).bind fun t402 => (spec_RankOfSwapped.j0 k l0 (l0.length : Int) (!t402))) else (spec_RankOfSwapped.j0 k l0 (l0.length : Int) true))
theorem spec_RankOfSwapped.calls (k : Nat) (A0 : Option Addr) (c0 : Nat) (l0 : List Int) (r1 : Int) (r2 : Bool) (w : World) (hr0 : Kd.C (Kd.int .i64) w A0 l0.length l0) (hc0 : l0.length ≤ c0) (h : spec_RankOfSwapped.f k l0 = some (r1, r2)) :
  Calls Try.prog 28 #[.slice A0 l0.length c0] w fun e w' => e = .returned (.tuple #[.int .i64 r1, .bool r2]) ∧ Drawn0 w w' := by
 have HR0 := Aside0.mk hr0
 have HC0 := Aside0.mk hc0
 clear hr0 hc0
 unfold spec_RankOfSwapped.f at h
 have H := h
 clear h
 have HC2 := Aside0.mk H
 clear H
 go_enter Try.func28, Try.ntmps28
 go_upto_region 2 with (fail)
 go_cut [23] (fun v23 wc => ∃ (kq : Nat) (x23_1 : Bool), v23 = .bool x23_1 ∧ Aside0 (spec_RankOfSwapped.j0 kq l0 (l0.length : Int) x23_1 = some (r1, r2)) ∧ Aside0 (kq ≤ k) ∧ Drawn0 w wc)
 case first =>
  have H := HC2.out
  clear HC2
  replace H := Option.bind_eq_some_iff.mp H
  obtain ⟨t401, A30, H⟩ := H
  try dsimp +instances only at H
  replace H := H
  have A3 := Aside0.mk A30
  clear A30
  by_cases c4 : t401 = true
  ·subst c4
   rw [if_pos rfl] at H
   have H1 := H
   clear H
   have H := H1
   clear H1
   replace H := Option.bind_eq_some_iff.mp H
   obtain ⟨t402, A50, H⟩ := H
   try dsimp +instances only at H
   replace H := H
   have A5 := Aside0.mk A50
   clear A50
   have H' := Aside0.mk H
   clear H
   go_wp2_with (first | ((with_reducible refine gate_callee (f := 42) rfl ?_); refine goesL_ (some 15) rfl rfl Try.func42 (by kernel_rfl) rfl #[.int .i64 (l0.length : Int), .int .i64 1, .int .i64 10] rfl (by (try simp only [List.map_toArray, List.map_cons, List.map_nil]); rfl) ?_; (with_reducible refine (spec_l1In.calls (l0.length : Int) 1 10 true _ A3.out).mono ?_); rintro e w' ⟨rfl, ⟨nd, rfl⟩⟩; refine ⟨_, rfl, ?_⟩) | (go_at_call 64; (with_reducible refine (spec_l1All.calls k _ _ l0 0 (wrap64 ((l0.length : Int) - 1)) t402 _ ?side1 ?side2 A5.out).mono ?_); (case side1 => exact HR0.out); (case side2 => exact HC0.out); rintro e w' ⟨rfl, ⟨nd, rfl⟩⟩))
   go_meet
   case rel => exact ⟨_, (!t402), (by rfl), H', ⟨by omega⟩, by (apply Drawn0.step; exact Drawn0.refl _)⟩
  ·replace c4 := Bool.eq_false_iff.mpr c4
   subst c4
   rw [if_neg (show ¬ (false = true) by decide)] at H
   have H1 := H
   clear H
   have H := H1
   clear H1
   have H' := Aside0.mk H
   clear H
   go_wp2_with (first | ((with_reducible refine gate_callee (f := 42) rfl ?_); refine goesL_ (some 15) rfl rfl Try.func42 (by kernel_rfl) rfl #[.int .i64 (l0.length : Int), .int .i64 1, .int .i64 10] rfl (by (try simp only [List.map_toArray, List.map_cons, List.map_nil]); rfl) ?_; (with_reducible refine (spec_l1In.calls (l0.length : Int) 1 10 false _ A3.out).mono ?_); rintro e w' ⟨rfl, ⟨nd, rfl⟩⟩; refine ⟨_, rfl, ?_⟩))
   go_meet
   case rel => exact ⟨_, (true), (by rfl), H', ⟨by omega⟩, by (apply Drawn0.step; exact Drawn0.refl _)⟩
 case rest =>
  clear HC2
  try clear c2
  try clear p2
  try clear c4
  obtain ⟨kq, x23_1, rfl, HA, HJ1, ⟨mc1, rfl⟩⟩ := hcut
  cases kq with
  | zero => exact absurd HA.out (by simp [spec_RankOfSwapped.j0])
  | succ kj1 =>
   have H := HA.out
   clear HA
   simp only [spec_RankOfSwapped.j0] at H
   by_cases c6 : x23_1 = true
   ·subst c6
    rw [if_pos rfl] at H
    have H1 := H
    clear H
    have H := H1
    clear H1
    simp only [Option.some.injEq, Prod.mk.injEq] at H
    obtain ⟨rfl, rfl⟩ := H
    go_wp2
    go_ret2
    exact ⟨by rfl, by (apply Drawn0.step; exact Drawn0.refl _)⟩
   ·replace c6 := Bool.eq_false_iff.mpr c6
    subst c6
    rw [if_neg (show ¬ (false = true) by decide)] at H
    have H1 := H
    clear H
    have H := H1
    clear H1
    have H' := Aside0.mk H
    clear H
    go_wp2
    go_loopg [26] kj1 (fun kq v26 w' => ∃ (x26_2 : Int), v26 = .int .i64 x26_2 ∧ Aside0 (spec_RankOfSwapped.l0 kq l0 (l0.length : Int) l0 (l0.length : Int) x26_2 = some (r1, r2)) ∧ Aside0 (kq ≤ kj1) ∧ Drawn0 w w')
    case atStart => exact ⟨(0), (by rfl), H', ⟨Nat.le_refl _⟩, by (apply Drawn0.step; exact Drawn0.refl _)⟩
    case round =>
     clear H'
     try clear c1
     try clear c2
     try clear p2
     try clear c4
     try clear c6
     try clear p6
     try clear p2
     obtain ⟨x26_2, rfl, HA, HK2, ⟨m2, rfl⟩⟩ := hrel
     cases gk with
     | zero => exact absurd HA.out (by simp [spec_RankOfSwapped.l0])
     | succ k2 =>
      have H := HA.out
      clear HA
      simp only [spec_RankOfSwapped.l0] at H
      by_cases c7 : x26_2 < (l0.length : Int)
      ·rw [if_pos c7] at H
       have c7b0 : decide (x26_2 < (l0.length : Int)) = true := decide_eq_true c7
       clear c7
       by_cases c8 : 0 ≤ x26_2
       ·rw [if_pos c8] at H
        have c8b0 : decide (0 ≤ x26_2) = true := decide_eq_true c8
        clear c8
        by_cases c9 : x26_2 < (l0.length : Int)
        ·rw [if_pos c9] at H
         have c9b0 : decide (x26_2 < (l0.length : Int)) = true := decide_eq_true c9
         clear c9
         have c10b0 := eq_true (of_decide_eq_true (by with_reducible assumption) : 0 ≤ x26_2)
         by_cases c11 : x26_2 ≤ (l0.length : Int)
         ·rw [if_pos c11] at H
          have c11b0 := eq_true c11
          have c11b1 : decide (x26_2 ≤ (l0.length : Int)) = true := decide_eq_true c11
          clear c11
          replace H := Option.bind_eq_some_iff.mp H
          obtain ⟨t405, A120, H⟩ := H
          try dsimp +instances only at H
          replace H := H
          have A12 := Aside0.mk A120
          clear A120
          by_cases c13 : t405 = true
          ·subst c13
           rw [if_pos rfl] at H
           have H1 := H
           clear H
           have H := H1
           clear H1
           simp only [Option.some.injEq, Prod.mk.injEq] at H
           obtain ⟨rfl, rfl⟩ := H
           have p403 : 0 ≤ (x26_2 : Int) := of_decide_eq_true (by with_reducible assumption)
           have q403 : x26_2 < (l0.length : Int) := of_decide_eq_true (by with_reducible assumption)
           obtain ⟨ad403, e403, hx403_0⟩ := Kd.at_int HR0.out x26_2 p403 q403
           cases e403
           replace p403 := eq_true p403
           replace q403 := eq_true q403
           obtain ⟨i014, hi014, _, hsz14, _⟩ := info_parts info3
           obtain ⟨hcut14, hA14, hC14⟩ := print_take_of (P := Try.prog) (Value.int .i64) 0 26 3 .i64 Try.underlying26 hi014 hsz14 (some ad403) c0 l0 x26_2 (of_decide_eq_true (by with_reducible assumption)) (of_decide_eq_true (by with_reducible assumption)) HC0.out
           have HR404 := Aside0.mk (Kd.C_of_reads (h1 := fun _ => rfl) (hA14 _ (Kd.reads_of_C HR0.out)))
           have HC404 := Aside0.mk hC14
           clear hA14 hC14 hi014 hsz14
           go_wp2_with (first | ((with_reducible refine gate_callee (f := 65) rfl ?_); refine goesL_ (some 35) rfl rfl Try.func65 (by kernel_rfl) rfl #[.slice (some ad403) (l0.take (x26_2 : Int).toNat).length c0, .int .i64 (rd l0 x26_2)] rfl (by (try simp only [List.map_toArray, List.map_cons, List.map_nil]); first | done | (rw [show (l0.take (x26_2 : Int).toNat).length = x26_2.toNat from (by rw [List.length_take]; have h_ : (x26_2 : Int) ≤ (l0.length : Int) := of_decide_eq_true (by with_reducible assumption); omega)] <;> rfl) | rfl | (simp only [List.length_drop, List.length_take]; rfl)) ?_; (with_reducible refine (spec_l1Has.calls k2 _ _ (l0.take (x26_2 : Int).toNat) (rd l0 x26_2) true _ ?side1 ?side2 A12.out).mono ?_); (case side1 => exact HR404.out); (case side2 => exact HC404.out); rintro e w' ⟨rfl, ⟨nd, rfl⟩⟩; refine ⟨_, rfl, ?_⟩))
           go_ret2
           exact ⟨by rfl, by (apply Drawn0.step; exact Drawn0.refl _)⟩
          ·replace c13 := Bool.eq_false_iff.mpr c13
           subst c13
           rw [if_neg (show ¬ (false = true) by decide)] at H
           have H1 := H
           clear H
           have H := H1
           clear H1
           have H' := Aside0.mk H
           clear H
           have p403 : 0 ≤ (x26_2 : Int) := of_decide_eq_true (by with_reducible assumption)
           have q403 : x26_2 < (l0.length : Int) := of_decide_eq_true (by with_reducible assumption)
           obtain ⟨ad403, e403, hx403_0⟩ := Kd.at_int HR0.out x26_2 p403 q403
           cases e403
           replace p403 := eq_true p403
           replace q403 := eq_true q403
           obtain ⟨i015, hi015, _, hsz15, _⟩ := info_parts info3
           obtain ⟨hcut15, hA15, hC15⟩ := print_take_of (P := Try.prog) (Value.int .i64) 0 26 3 .i64 Try.underlying26 hi015 hsz15 (some ad403) c0 l0 x26_2 (of_decide_eq_true (by with_reducible assumption)) (of_decide_eq_true (by with_reducible assumption)) HC0.out
           have HR404 := Aside0.mk (Kd.C_of_reads (h1 := fun _ => rfl) (hA15 _ (Kd.reads_of_C HR0.out)))
           have HC404 := Aside0.mk hC15
           clear hA15 hC15 hi015 hsz15
           go_wp2_with (first | ((with_reducible refine gate_callee (f := 65) rfl ?_); refine goesL_ (some 35) rfl rfl Try.func65 (by kernel_rfl) rfl #[.slice (some ad403) (l0.take (x26_2 : Int).toNat).length c0, .int .i64 (rd l0 x26_2)] rfl (by (try simp only [List.map_toArray, List.map_cons, List.map_nil]); first | done | (rw [show (l0.take (x26_2 : Int).toNat).length = x26_2.toNat from (by rw [List.length_take]; have h_ : (x26_2 : Int) ≤ (l0.length : Int) := of_decide_eq_true (by with_reducible assumption); omega)] <;> rfl) | rfl | (simp only [List.length_drop, List.length_take]; rfl)) ?_; (with_reducible refine (spec_l1Has.calls k2 _ _ (l0.take (x26_2 : Int).toNat) (rd l0 x26_2) false _ ?side1 ?side2 A12.out).mono ?_); (case side1 => exact HR404.out); (case side2 => exact HC404.out); rintro e w' ⟨rfl, ⟨nd, rfl⟩⟩; refine ⟨_, rfl, ?_⟩))
           go_roundg k2
           case measure => have := HJ1.out; have := HK2.out; omega
           case rel => exact ⟨(wrap64 (x26_2 + 1)), (by rfl), H', ⟨by have := HJ1.out; have := HK2.out; omega⟩, by (apply Drawn0.step; exact Drawn0.refl _)⟩
         ·rw [if_neg c11] at H
          exact absurd H (by simp)
        ·rw [if_neg c9] at H
         exact absurd H (by simp)
       ·rw [if_neg c8] at H
        exact absurd H (by simp)
      ·rw [if_neg c7] at H
       have c7b0 : decide (x26_2 < (l0.length : Int)) = false := decide_eq_false c7
       clear c7
       have H' := Aside0.mk H
       clear H
       go_wp2
       go_loopg [7, 8] k2 (fun kq v7 v8 w' => ∃ (x7_3 : Int) (x8_3 : Int), v7 = .int .i64 x7_3 ∧ v8 = .int .i64 x8_3 ∧ Aside0 (spec_RankOfSwapped.l1 kq l0 (l0.length : Int) x7_3 x8_3 = some (r1, r2)) ∧ Aside0 (kq ≤ k2) ∧ Drawn0 w w')
       case atStart => exact ⟨(0), (1), (by rfl), (by rfl), H', ⟨Nat.le_refl _⟩, by (apply Drawn0.step; exact Drawn0.refl _)⟩
       case round =>
        clear H'
        try clear c1
        try clear c2
        try clear p2
        try clear c4
        try clear p4
        try clear q4
        try clear hx4
        try clear c6
        try clear p6
        try clear c7
        try clear c7b0
        try clear c8
        try clear c8b0
        try clear c9
        try clear c9b0
        try clear c10
        try clear c10b0
        try clear c11
        try clear c11b0
        try clear c11b1
        try clear c13
        try clear hx403_0
        try clear p2
        try clear p403
        try clear p6
        try clear q403
        obtain ⟨x7_3, x8_3, rfl, rfl, HA, HK3, ⟨m3, rfl⟩⟩ := hrel
        cases gk with
        | zero => exact absurd HA.out (by simp [spec_RankOfSwapped.l1])
        | succ k3 =>
         have H := HA.out
         clear HA
         simp only [spec_RankOfSwapped.l1] at H
         by_cases c16 : x8_3 ≤ (l0.length : Int)
         ·rw [if_pos c16] at H
          have c16b0 : decide (x8_3 ≤ (l0.length : Int)) = true := decide_eq_true c16
          clear c16
          have H' := Aside0.mk H
          clear H
          go_wp2
          go_loopg [9, 44] k3 (fun kq v9 v44 w' => ∃ (x9_4 : Int) (x44_4 : Int), v9 = .int .i64 x9_4 ∧ v44 = .int .i64 x44_4 ∧ Aside0 (spec_RankOfSwapped.l2 kq l0 (l0.length : Int) x7_3 x8_3 x9_4 l0 (l0.length : Int) x44_4 = some (r1, r2)) ∧ Aside0 (kq ≤ k3) ∧ Drawn0 w w')
          case atStart => exact ⟨(0), (0), (by rfl), (by rfl), H', ⟨Nat.le_refl _⟩, by (apply Drawn0.step; exact Drawn0.refl _)⟩
          case round =>
           clear H'
           try clear c1
           try clear c2
           try clear p2
           try clear c4
           try clear p4
           try clear q4
           try clear hx4
           try clear c6
           try clear p6
           try clear c7
           try clear c7b0
           try clear c8
           try clear c8b0
           try clear c9
           try clear c9b0
           try clear c10
           try clear c10b0
           try clear c11
           try clear c11b0
           try clear c11b1
           try clear c13
           try clear c16
           try clear c16b0
           try clear hx403_0
           try clear p2
           try clear p4
           try clear p403
           try clear p6
           try clear q4
           try clear q403
           obtain ⟨x9_4, x44_4, rfl, rfl, HA, HK4, ⟨m4, rfl⟩⟩ := hrel
           cases gk with
           | zero => exact absurd HA.out (by simp [spec_RankOfSwapped.l2])
           | succ k4 =>
            have H := HA.out
            clear HA
            simp only [spec_RankOfSwapped.l2] at H
            by_cases c17 : x44_4 < (l0.length : Int)
            ·rw [if_pos c17] at H
             have c17b0 : decide (x44_4 < (l0.length : Int)) = true := decide_eq_true c17
             clear c17
             by_cases c18 : 0 ≤ x44_4
             ·rw [if_pos c18] at H
              have c18b0 : decide (0 ≤ x44_4) = true := decide_eq_true c18
              clear c18
              by_cases c19 : x44_4 < (l0.length : Int)
              ·rw [if_pos c19] at H
               have c19b0 : decide (x44_4 < (l0.length : Int)) = true := decide_eq_true c19
               clear c19
               by_cases c20 : (rd l0 x44_4) = (wrap64 (x8_3 - 1))
               ·rw [if_pos c20] at H
                have c20b0 : ((rd l0 x44_4) == (wrap64 (x8_3 - 1))) = true := beq_iff_eq.mpr c20
                have c20b1 : ((rd l0 x44_4) != (wrap64 (x8_3 - 1))) = false := bne_eq_false_iff_eq.mpr c20
                clear c20
                by_cases c21 : (Int.tmod x7_3 2) = 0
                ·rw [if_pos c21] at H
                 have c21b0 : ((Int.tmod x7_3 2) == 0) = true := beq_iff_eq.mpr c21
                 have c21b1 : ((Int.tmod x7_3 2) != 0) = false := bne_eq_false_iff_eq.mpr c21
                 clear c21
                 have H' := Aside0.mk H
                 clear H
                 have p406 : 0 ≤ (x44_4 : Int) := of_decide_eq_true (by with_reducible assumption)
                 have q406 : x44_4 < (l0.length : Int) := of_decide_eq_true (by with_reducible assumption)
                 obtain ⟨ad406, e406, hx406_0⟩ := Kd.at_int HR0.out x44_4 p406 q406
                 cases e406
                 replace p406 := eq_true p406
                 replace q406 := eq_true q406
                 go_wp2
                 go_roundg k4
                 case measure => have := HJ1.out; have := HK2.out; have := HK3.out; have := HK4.out; omega
                 case rel => exact ⟨(wrap64 ((wrap64 (x7_3 * x8_3)) + (wrap64 ((wrap64 (x8_3 - 1)) - x9_4)))), (wrap64 (x8_3 + 1)), (by rfl), (by rfl), H', ⟨by have := HJ1.out; have := HK2.out; have := HK3.out; have := HK4.out; omega⟩, by (apply Drawn0.step; exact Drawn0.refl _)⟩
                ·rw [if_neg c21] at H
                 have c21b0 : ((Int.tmod x7_3 2) == 0) = false := beq_eq_false_iff_ne.mpr c21
                 have c21b1 : ((Int.tmod x7_3 2) != 0) = true := bne_iff_ne.mpr c21
                 have H' := Aside0.mk H
                 clear H
                 have p406 : 0 ≤ (x44_4 : Int) := of_decide_eq_true (by with_reducible assumption)
                 have q406 : x44_4 < (l0.length : Int) := of_decide_eq_true (by with_reducible assumption)
                 obtain ⟨ad406, e406, hx406_0⟩ := Kd.at_int HR0.out x44_4 p406 q406
                 cases e406
                 replace p406 := eq_true p406
                 replace q406 := eq_true q406
                 go_wp2
                 go_roundg k4
                 case measure => have := HJ1.out; have := HK2.out; have := HK3.out; have := HK4.out; omega
                 case rel => exact ⟨(wrap64 ((wrap64 (x7_3 * x8_3)) + x9_4)), (wrap64 (x8_3 + 1)), (by rfl), (by rfl), H', ⟨by have := HJ1.out; have := HK2.out; have := HK3.out; have := HK4.out; omega⟩, by (apply Drawn0.step; exact Drawn0.refl _)⟩
               ·rw [if_neg c20] at H
                have c20b0 : ((rd l0 x44_4) == (wrap64 (x8_3 - 1))) = false := beq_eq_false_iff_ne.mpr c20
                have c20b1 : ((rd l0 x44_4) != (wrap64 (x8_3 - 1))) = true := bne_iff_ne.mpr c20
                by_cases c22 : (rd l0 x44_4) < x8_3
                ·rw [if_pos c22] at H
                 have c22b0 : decide ((rd l0 x44_4) < x8_3) = true := decide_eq_true c22
                 clear c22
                 have H' := Aside0.mk H
                 clear H
                 have p406 : 0 ≤ (x44_4 : Int) := of_decide_eq_true (by with_reducible assumption)
                 have q406 : x44_4 < (l0.length : Int) := of_decide_eq_true (by with_reducible assumption)
                 obtain ⟨ad406, e406, hx406_0⟩ := Kd.at_int HR0.out x44_4 p406 q406
                 cases e406
                 replace p406 := eq_true p406
                 replace q406 := eq_true q406
                 go_wp2
                 go_roundg k4
                 case measure => have := HJ1.out; have := HK2.out; have := HK3.out; have := HK4.out; omega
                 case rel => exact ⟨(wrap64 (x9_4 + 1)), (wrap64 (x44_4 + 1)), (by rfl), (by rfl), H', ⟨by have := HJ1.out; have := HK2.out; have := HK3.out; have := HK4.out; omega⟩, by (apply Drawn0.step; exact Drawn0.refl _)⟩
                ·rw [if_neg c22] at H
                 have c22b0 : decide ((rd l0 x44_4) < x8_3) = false := decide_eq_false c22
                 clear c22
                 have H' := Aside0.mk H
                 clear H
                 have p406 : 0 ≤ (x44_4 : Int) := of_decide_eq_true (by with_reducible assumption)
                 have q406 : x44_4 < (l0.length : Int) := of_decide_eq_true (by with_reducible assumption)
                 obtain ⟨ad406, e406, hx406_0⟩ := Kd.at_int HR0.out x44_4 p406 q406
                 cases e406
                 replace p406 := eq_true p406
                 replace q406 := eq_true q406
                 go_wp2
                 go_roundg k4
                 case measure => have := HJ1.out; have := HK2.out; have := HK3.out; have := HK4.out; omega
                 case rel => exact ⟨(x9_4), (wrap64 (x44_4 + 1)), (by rfl), (by rfl), H', ⟨by have := HJ1.out; have := HK2.out; have := HK3.out; have := HK4.out; omega⟩, by (apply Drawn0.step; exact Drawn0.refl _)⟩
              ·rw [if_neg c19] at H
               exact absurd H (by simp)
             ·rw [if_neg c18] at H
              exact absurd H (by simp)
            ·rw [if_neg c17] at H
             have c17b0 : decide (x44_4 < (l0.length : Int)) = false := decide_eq_false c17
             clear c17
             by_cases c23 : (Int.tmod x7_3 2) = 0
             ·rw [if_pos c23] at H
              have c23b0 : ((Int.tmod x7_3 2) == 0) = true := beq_iff_eq.mpr c23
              have c23b1 : ((Int.tmod x7_3 2) != 0) = false := bne_eq_false_iff_eq.mpr c23
              clear c23
              have H' := Aside0.mk H
              clear H
              go_wp2
              go_roundg k4
              case measure => have := HJ1.out; have := HK2.out; have := HK3.out; have := HK4.out; omega
              case rel => exact ⟨(wrap64 ((wrap64 (x7_3 * x8_3)) + (wrap64 ((wrap64 (x8_3 - 1)) - x9_4)))), (wrap64 (x8_3 + 1)), (by rfl), (by rfl), H', ⟨by have := HJ1.out; have := HK2.out; have := HK3.out; have := HK4.out; omega⟩, by (apply Drawn0.step; exact Drawn0.refl _)⟩
             ·rw [if_neg c23] at H
              have c23b0 : ((Int.tmod x7_3 2) == 0) = false := beq_eq_false_iff_ne.mpr c23
              have c23b1 : ((Int.tmod x7_3 2) != 0) = true := bne_iff_ne.mpr c23
              have H' := Aside0.mk H
              clear H
              go_wp2
              go_roundg k4
              case measure => have := HJ1.out; have := HK2.out; have := HK3.out; have := HK4.out; omega
              case rel => exact ⟨(wrap64 ((wrap64 (x7_3 * x8_3)) + x9_4)), (wrap64 (x8_3 + 1)), (by rfl), (by rfl), H', ⟨by have := HJ1.out; have := HK2.out; have := HK3.out; have := HK4.out; omega⟩, by (apply Drawn0.step; exact Drawn0.refl _)⟩
         ·rw [if_neg c16] at H
          have c16b0 : decide (x8_3 ≤ (l0.length : Int)) = false := decide_eq_false c16
          clear c16
          simp only [Option.some.injEq, Prod.mk.injEq] at H
          obtain ⟨rfl, rfl⟩ := H
          go_wp2
          go_ret2
          exact ⟨by rfl, by (apply Drawn0.step; exact Drawn0.refl _)⟩
mutual
def spec_l1Cur_limits.l0 : Nat → List Int → Int → List Int → Int → Int → Option (List Int × Int × Int)
 | 0, _, _, _, _, _ => none
 | k + 1, x3, x4, x1000, x1001, x1002 => if x4 > 0 then ((spec_l1Cur_pick.f x1000 x1001 x1002 5).bind fun bt410 => (if x3.length < 17592186044416 then (spec_l1Cur_limits.l0 k (x3 ++ [wrap64 (1 + bt410.1)]) (wrap64 (x4 - 1)) x1000 bt410.2.1 bt410.2.2) else (none))) else ((spec_l1Cur_pick.f x1000 x1001 x1002 14).bind fun bt416 => (if bt416.1 = 0 then ((spec_l1Cur_among.f x1000 bt416.2.1 bt416.2.2 (([(-1), 0, 20, 21] : List Int))).bind fun bt422 => (if 0 < (x3.length : Int) then (some ((x3.set (0 : Int).toNat bt422.1), bt422.2.1, bt422.2.2)) else (none))) else (if bt416.1 = 1 then (spec_l1Cur_limits.l1 k x3 x1000 bt416.2.1 bt416.2.2) else (if bt416.1 = 2 then (some (([] : List Int), bt416.2.1, bt416.2.2)) else (some (x3, bt416.2.1, bt416.2.2))))))
def spec_l1Cur_limits.l1 : Nat → List Int → List Int → Int → Int → Option (List Int × Int × Int)
 | 0, _, _, _, _ => none
 | k + 1, x3, x1000, x1001, x1002 => (spec_l1Cur_pick.f x1000 x1001 x1002 2).bind fun bt426 => (if (x3.length : Int) < (wrap64 (8 + bt426.1)) then (if x3.length < 17592186044416 then (spec_l1Cur_limits.l1 k (x3 ++ [20]) x1000 bt426.2.1 bt426.2.2) else (none)) else (some (x3, bt426.2.1, bt426.2.2)))
end
def spec_l1Cur_limits.f (k : Nat) (s0_0 : List Int) (s0_1 : Int) (s0_2 : Int) : Option (List Int × Int × Int) := (spec_l1Cur_pick.f s0_0 s0_1 s0_2 4).bind fun bt407 => (spec_l1Cur_limits.l0 k ([] : List Int) (wrap64 (1 + bt407.1)) s0_0 bt407.2.1 bt407.2.2)
theorem spec_l1Cur_limits.calls (k : Nat) (g : Nat) (s0_0 : List Int) (s0_1 : Int) (s0_2 : Int) (r1 : List Int) (r2 : Int) (r3 : Int) (w0 w : World) (hI : IsS51 w0 w g s0_0 s0_1 s0_2) (hB : Below w0.heap.size w0 w) (h : spec_l1Cur_limits.f k s0_0 s0_1 s0_2 = some (r1, r2, r3)) :
  Calls Try.prog 66 #[.pointer (some ⟨g, 0, none⟩)] w fun e w' => ∃ v0_ : Value, e = .returned (v0_) ∧ Kd.R (Kd.int .i64) 3 w' w.heap.size (fun _ => True) v0_ r1 ∧ IsS51 w0 w' g s0_0 r2 r3 ∧ Below w0.heap.size w0 w' ∧ KeepBut w w' g none := by
 have HI0 := Aside0.mk hI
 have HK := Aside0.mk (KeepBut.refl w g none)
 have HL := Aside0.mk hB.size
 clear hI
 have HW0 := Aside0.mk hB.size
 have HB := Aside0.mk hB
 clear hB
 unfold spec_l1Cur_limits.f at h
 have H := h
 clear h
 replace H := Option.bind_eq_some_iff.mp H
 obtain ⟨⟨t407, t408, t409⟩, A20, H⟩ := H
 try dsimp +instances only at H
 replace H := H
 have A2 := Aside0.mk A20
 clear A20
 have H' := Aside0.mk H
 clear H
 go_enter Try.func66, Try.ntmps66
 go_wp2_with (first | ((with_reducible refine gate_callee (f := 38) rfl ?_); refine goesL_ (some 6) rfl rfl Try.func38 (by kernel_rfl) rfl #[.pointer (some ⟨g, 0, none⟩), .int .i64 4] rfl (by (try simp only [List.map_toArray, List.map_cons, List.map_nil]); rfl) ?_; (with_reducible refine (spec_l1Cur_pick.calls g s0_0 s0_1 s0_2 4 t407 t408 t409 w0 _ ?side1 ?side2 A2.out).mono ?_); (case side1 => exact HI0.out); (case side2 => exact HB.out); rintro e w3 ⟨rfl, hi, hb, hk⟩; refine ⟨_, rfl, ?_⟩; have n0_ := Aside0.mk (KeepBut.trans (HK.out) hk (.inl rfl)); have n1_ := Aside0.mk (hb); have n2_ := Aside0.mk (hi); clear HK; clear HB; clear HI0; have HK := n0_; have HB := n1_; have HI0 := n2_; clear n0_ n1_ n2_; clear hb; clear hk; clear hi))
 go_loopg [3, 4] k (fun kq v3 v4 w' => ∃ (x3_1 : List Int) (x4_1 : Int) (x1001_1 : Int) (x1002_1 : Int), v4 = .int .i64 x4_1 ∧ Aside0 (spec_l1Cur_limits.l0 kq x3_1 x4_1 s0_0 x1001_1 x1002_1 = some (r1, r2, r3)) ∧ Aside0 (kq ≤ k) ∧ Aside0 (Kd.R (Kd.int .i64) 3 w' w.heap.size (fun _ => True) v3 x3_1) ∧ Aside0 (IsS51 w0 w' g s0_0 x1001_1 x1002_1) ∧ Aside0 (KeepBut w w' g none) ∧ Aside0 (Below w0.heap.size w0 w'))
 case atStart => exact ⟨(([] : List Int)), (wrap64 (1 + t407)), (t408), (t409), (by rfl), H', ⟨Nat.le_refl _⟩, ⟨by exact Kd.R_nil _ _ _ _ _⟩, ⟨HI0.out⟩, ⟨HK.out⟩, ⟨HB.out⟩⟩
 case round =>
  clear H'
  try clear p2
  try clear c3
  obtain ⟨x3_1, x4_1, x1001_1, x1002_1, rfl, HA, HK1, HO_3, HI0, HK, HB⟩ := hrel
  cases gk with
  | zero => exact absurd HA.out (by simp [spec_l1Cur_limits.l0])
  | succ k1 =>
   have H := HA.out
   clear HA
   simp only [spec_l1Cur_limits.l0] at H
   by_cases c4 : x4_1 > 0
   ·rw [if_pos c4] at H
    have c4b0 : decide (0 < x4_1) = true := decide_eq_true c4
    clear c4
    replace H := Option.bind_eq_some_iff.mp H
    obtain ⟨⟨t410, t411, t412⟩, A50, H⟩ := H
    try dsimp +instances only at H
    replace H := H
    have A5 := Aside0.mk A50
    clear A50
    by_cases c6 : x3_1.length < 17592186044416
    ·rw [if_pos c6] at H
     have LMc6 := Aside0.mk c6
     clear c6
     obtain ⟨y413, hy413⟩ : ∃ y_ : List Int, y_ = (x3_1 ++ [wrap64 (1 + t410)]) := ⟨_, rfl⟩
     replace H : (spec_l1Cur_limits.l0 k1 y413 (wrap64 (x4_1 - 1)) s0_0 t411 t412) = some (r1, r2, r3) := by first | (rw [hy413]; with_reducible exact H) | (have H2_ := (Option.bind_some _ _).symm.trans H; rw [hy413]; with_reducible exact H2_) | (have H2_ := (Option.bind_some _ _).symm.trans H; with_reducible exact H2_) | with_reducible exact H | (rw [hy413]; exact H) | exact H
     have Ny413 := Aside0.mk hy413
     clear hy413
     have H' := Aside0.mk H
     clear H
     go_wp2_with (first | ((with_reducible refine gate_callee (f := 38) rfl ?_); refine goesL_ (some 14) rfl rfl Try.func38 (by kernel_rfl) rfl #[.pointer (some ⟨g, 0, none⟩), .int .i64 5] rfl (by (try simp only [List.map_toArray, List.map_cons, List.map_nil]); rfl) ?_; (with_reducible refine (spec_l1Cur_pick.calls g s0_0 x1001_1 x1002_1 5 t410 t411 t412 w0 _ ?side1 ?side2 A5.out).mono ?_); (case side1 => exact HI0.out); (case side2 => exact HB.out); rintro e w7 ⟨rfl, hi, hb, hk⟩; refine ⟨_, rfl, ?_⟩; have n0_ := Aside0.mk (Kd.R_mono (Kd.R_keep (IsS51.apart (show IsS51 w0 _ g s0_0 x1001_1 x1002_1 from HI0.out) (HO_3.out) (by decide)) hk (fun _ h => h.2)) (fun _ h => h.1)); have n1_ := Aside0.mk (KeepBut.trans (HK.out) hk (.inl rfl)); have n2_ := Aside0.mk (hb); have n3_ := Aside0.mk (hi); clear HO_3; clear HK; clear HB; clear HI0; have HO_3 := n0_; have HK := n1_; have HB := n2_; have HI0 := n3_; clear n0_ n1_ n2_ n3_; clear hb; clear hk; clear hi) | ((with_reducible refine gate_builtin (b := .append) (xs := #[.tmp 12, .tmp 16]) rfl ?_); at_builtin; refine Kd.R_append (Kd.int .i64) w.heap.size rfl (.tmp 12) (.tmp 16) 26 3 (.int .i64 0) 8 rfl Try.underlying26 info3 rfl (by decide) (by omega) u3 x3_1 (wrap64 (1 + t410)) [.int .i64 (wrap64 (1 + t410))] (fun _ => True) (fun _ => False) rfl rfl ?aP (fun _ hk => hk.elim) ?aF ?aO (Below.refl _ _) ?aS ?aL ?_; (case aP => exact rfl); (case aF => exact (fun _ _ => trivial)); (case aO => exact (HO_3.out)); (case aS => exact (keep_size (w := w) (g := g) (row := none) (HK.out))); (case aL => have := LMc6.out; omega); intro v414 w8 ho hb hg hat; rw [← Ny413.out] at ho; have n0_ := Aside0.mk (IsS51.grown (HI0.out) hg (IsS51.own_ne HI0.out HO_3.out (by decide))); have n1_ := Aside0.mk (below_weaken (HB.out) HL.out hb); have n2_ := Aside0.mk (KeepBut.trans (HK.out) (KeepBut.of_grown hg g) (Kd.R_base2 HO_3.out)); have n3_ := Aside0.mk (ho); clear HI0; clear HB; clear HK; clear HO_3; have HI0 := n0_; have HB := n1_; have HK := n2_; have HO415 := n3_; clear n0_ n1_ n2_ n3_; clear ho hb hg hat))
     go_roundg k1
     case measure => have := HK1.out; omega
     case rel => exact ⟨(y413), (wrap64 (x4_1 - 1)), (t411), (t412), (by rfl), H', ⟨by have := HK1.out; omega⟩, ⟨HO415.out⟩, ⟨HI0.out⟩, ⟨HK.out⟩, ⟨HB.out⟩⟩
    ·rw [if_neg c6] at H
     exact absurd H (by simp)
   ·rw [if_neg c4] at H
    have c4b0 : decide (0 < x4_1) = false := decide_eq_false c4
    clear c4
    replace H := Option.bind_eq_some_iff.mp H
    obtain ⟨⟨t416, t417, t418⟩, A90, H⟩ := H
    try dsimp +instances only at H
    replace H := H
    have A9 := Aside0.mk A90
    clear A90
    by_cases c10 : t416 = 0
    ·rw [if_pos c10] at H
     have c10b0 : (t416 == 0) = true := beq_iff_eq.mpr c10
     have c10b1 : (t416 != 0) = false := bne_eq_false_iff_eq.mpr c10
     clear c10
     obtain ⟨y419, hy419⟩ : ∃ y_ : List Int, y_ = (([(-1), 0, 20, 21] : List Int)) := ⟨_, rfl⟩
     replace H : ((spec_l1Cur_among.f s0_0 t417 t418 y419).bind fun bt422 => (if 0 < (x3_1.length : Int) then (some ((x3_1.set (0 : Int).toNat bt422.1), bt422.2.1, bt422.2.2)) else (none))) = some (r1, r2, r3) := by first | (rw [hy419]; with_reducible exact H) | (have H2_ := (Option.bind_some _ _).symm.trans H; rw [hy419]; with_reducible exact H2_) | (have H2_ := (Option.bind_some _ _).symm.trans H; with_reducible exact H2_) | with_reducible exact H | (rw [hy419]; exact H) | exact H
     have Ny419 := Aside0.mk hy419
     clear hy419
     replace H := Option.bind_eq_some_iff.mp H
     obtain ⟨⟨t422, t423, t424⟩, A110, H⟩ := H
     try dsimp +instances only at H
     replace H := H
     have A11 := Aside0.mk A110
     clear A110
     by_cases c12 : 0 < (x3_1.length : Int)
     ·rw [if_pos c12] at H
      have c12b0 : decide (0 < (x3_1.length : Int)) = true := decide_eq_true c12
      have c12b1 : decide (0 < x3_1.length) = true := decide_eq_true (by omega)
      clear c12
      obtain ⟨y425, hy425⟩ : ∃ y_ : List Int, y_ = (x3_1.set (0 : Int).toNat t422) := ⟨_, rfl⟩
      replace H : (some (y425, t423, t424)) = some (r1, r2, r3) := by first | (rw [hy425]; with_reducible exact H) | (have H2_ := (Option.bind_some _ _).symm.trans H; rw [hy425]; with_reducible exact H2_) | (have H2_ := (Option.bind_some _ _).symm.trans H; with_reducible exact H2_) | with_reducible exact H | (rw [hy425]; exact H) | exact H
      have Ny425 := Aside0.mk hy425
      clear hy425
      simp only [Option.some.injEq, Prod.mk.injEq] at H
      obtain ⟨rfl, rfl, rfl⟩ := H
      go_wp2_with (first | ((with_reducible refine gate_callee (f := 38) rfl ?_); refine goesL_ (some 19) rfl rfl Try.func38 (by kernel_rfl) rfl #[.pointer (some ⟨g, 0, none⟩), .int .i64 14] rfl (by (try simp only [List.map_toArray, List.map_cons, List.map_nil]); rfl) ?_; (with_reducible refine (spec_l1Cur_pick.calls g s0_0 x1001_1 x1002_1 14 t416 t417 t418 w0 _ ?side1 ?side2 A9.out).mono ?_); (case side1 => exact HI0.out); (case side2 => exact HB.out); rintro e w14 ⟨rfl, hi, hb, hk⟩; refine ⟨_, rfl, ?_⟩; have n0_ := Aside0.mk (Kd.R_mono (Kd.R_keep (IsS51.apart (show IsS51 w0 _ g s0_0 x1001_1 x1002_1 from HI0.out) (HO_3.out) (by decide)) hk (fun _ h => h.2)) (fun _ h => h.1)); have n1_ := Aside0.mk (KeepBut.trans (HK.out) hk (.inl rfl)); have n2_ := Aside0.mk (hb); have n3_ := Aside0.mk (hi); clear HO_3; clear HK; clear HB; clear HI0; have HO_3 := n0_; have HK := n1_; have HB := n2_; have HI0 := n3_; clear n0_ n1_ n2_ n3_; clear hb; clear hk; clear hi) | ((with_reducible refine gate_dst (N := 24) rfl ?_); refine Kd.R_lit (Kd.int .i64) _ 3 ?hg (N := 24) ?hd (xs := ([(-1), 0, 20, 21] : List Int)) (inner := [.int .i64 (-1), .int .i64 0, .int .i64 20, .int .i64 21]) (ok := fun _ => True) (okp := fun _ => True) ?hr ?hp (fun _ hk => hk) trivial (Below.refl _ _) (Nat.le_refl _) (by simp) ?_; (case hd => rfl); (case hg => rfl); (case hr => first | (go_simp; done) | (go_simp; rfl)); (case hp => exact (Reps.one (show Kd.M (Kd.int .i64) _ _ _ (-1) [.int .i64 (-1)] from rfl) (Reps.one (show Kd.M (Kd.int .i64) _ _ _ 0 [.int .i64 0] from rfl) (Reps.one (show Kd.M (Kd.int .i64) _ _ _ 20 [.int .i64 20] from rfl) (Reps.one (show Kd.M (Kd.int .i64) _ _ _ 21 [.int .i64 21] from rfl) (Reps.none _ _)))))); intro v420 w15 ho16 hb hg_ hnew_; clear hg_ hnew_; (first | rw [← Ny419.out] at ho16 | (simp only [Int.reduceToNat] at ho16; rw [← Ny419.out] at ho16)); have n0_ := Aside0.mk (Kd.R_elder' (HO_3.out) (Kd.R_base ho16) hb); have n1_ := Aside0.mk (Kd.R_lower (Kd.R_new' ho16 (Kd.R_lt (HO_3.out))) (keep_size (w := w) (g := g) (row := none) (HK.out))); have n2_ := Aside0.mk (IsS51.below (HI0.out) hb); have n3_ := Aside0.mk (KeepBut.trans (HK.out) (KeepBut.of_below hb g none) (.inl rfl)); have n4_ := Aside0.mk (below_step (HB.out) hb); clear HO_3; clear HI0; clear HK; clear HB; have HO_3 := n0_; have HO421 := n1_; have HI0 := n2_; have HK := n3_; have HB := n4_; clear n0_ n1_ n2_ n3_ n4_; clear hb ho16; obtain ⟨Ao17, co17, eo17⟩ := Kd.R_slice HO421.out; subst eo17) | ((with_reducible refine gate_callee (f := 37) rfl ?_); refine goesL_ (some 25) rfl rfl Try.func37 (by kernel_rfl) rfl #[.pointer (some ⟨g, 0, none⟩), .slice Ao17 y419.length co17] rfl (by (try simp only [List.map_toArray, List.map_cons, List.map_nil]); rfl) ?_; (with_reducible refine (spec_l1Cur_among.calls g s0_0 t417 t418 _ _ y419 t422 t423 t424 w0 _ ?side1 ?side2 ?side3 ?side4 ?side5 A11.out).mono ?_); (case side1 => exact HI0.out); (case side2 => exact HB.out); (case side3 => exact (Kd.R_reads' HO421.out).2.2); (case side4 => exact (Kd.R_reads' HO421.out).2.1); (case side5 => exact far_slice (IsS51.own_ne HI0.out HO421.out (by decide))); rintro e w18 ⟨rfl, hi, hb, hk⟩; refine ⟨_, rfl, ?_⟩; have n0_ := Aside0.mk (Kd.R_mono (Kd.R_keep (IsS51.apart (show IsS51 w0 _ g s0_0 t417 t418 from HI0.out) (HO_3.out) (by decide)) hk (fun _ h => h.2)) (fun _ h => h.1)); have n1_ := Aside0.mk (Kd.R_mono (Kd.R_keep (IsS51.apart (show IsS51 w0 _ g s0_0 t417 t418 from HI0.out) (HO421.out) (by decide)) hk (fun _ h => h.2)) (fun _ h => h.1)); have n2_ := Aside0.mk (KeepBut.trans (HK.out) hk (.inl rfl)); have n3_ := Aside0.mk (hb); have n4_ := Aside0.mk (hi); clear HO_3; clear HO421; clear HK; clear HB; clear HI0; have HO_3 := n0_; have HO421 := n1_; have HK := n2_; have HB := n3_; have HI0 := n4_; clear n0_ n1_ n2_ n3_ n4_; clear hb; clear hk; clear hi; have p13 : 0 ≤ (0 : Int) := (by omega); have q13 : (0 : Int) < ((x3_1.length : Int) : Int) := of_decide_eq_true (by with_reducible assumption); have qi13 : (0 < x3_1.length) = True := eq_true (by omega); obtain ⟨go13, co13, eo13, gb13, gl13, cl13, HG13⟩ := Kd.R_form HO_3.out (by omega); (first | cases eo13 | (injection eo13 with ea_ en_ ec_; (first | subst ea_ | (injection ea_ with ea_; subst ea_)); subst ec_; clear en_)); have GB13 := Aside0.mk gb13; have GG13 := Aside0.mk HG13; clear gb13 gl13 HG13; obtain ⟨hx13_0, hf13_0⟩ := Kd.R_celln 0 HO_3.out (0 : Int) p13 q13; (try rw [show ((0 : Int)).toNat = 0 from rfl] at hx13_0); (try simp only [Nat.reduceMul, Nat.zero_mul, Nat.zero_add, Nat.reduceAdd] at hx13_0); (try rw [show ((0 : Int)).toNat = 0 from rfl] at hf13_0); (try simp only [Nat.reduceMul, Nat.zero_mul, Nat.zero_add, Nat.reduceAdd] at hf13_0); replace p13 := eq_true p13; replace q13 := eq_true q13; have n_ := Aside0.mk (Kd.R_mono (ok' := (fun k_ => some k_ ≠ (.slice Ao17 y419.length co17 : Value).ownBlock)) HO_3.out (fun k_ hk => hk.2)); clear HO_3; have HO_3 := n_; clear n_; obtain ⟨hy19_, hz19_⟩ := Kd.R_celln 0 HO_3.out (0 : Int) (by omega) (of_decide_eq_true (by with_reducible assumption)); (try simp only [Int.reduceToNat, Int.toNat_zero, Int.toNat_ofNat, Nat.reduceMul, Nat.zero_mul, Nat.zero_add] at hy19_ hz19_); (try rw [show ((0 : Int)).toNat = 0 from rfl] at hy19_); (try rw [show ((0 : Int)).toNat = 0 from rfl] at hz19_); have HP19 := Kd.R_putg HO_3.out (0 : Int) t422) | ((with_reducible refine gate_store (t := 3) (p := 26) rfl ?_); refine store_event (t := 3) (p := 26) (v := ?vo_w20) (w1 := (w18.setCell ⟨go13, (0 : Int).toNat, none⟩ (.int .i64 t422))) ?hg ?ho ?hn ?hr ?_; (case ho => rfl); (case hg => rfl); (case hn => rfl); (case hr => first | (go_simp; done) | (go_simp; rfl)); intro w20 hw; have hg : w18.grownBy w20 (some go13) := (by rw [hw]; exact HP19.2); have hp_ : Kd.R (Kd.int .i64) 3 w20 w.heap.size (fun k_ => some k_ ≠ (.slice Ao17 y419.length co17 : Value).ownBlock) (.slice (some ⟨go13, 0, none⟩) x3_1.length co13) y425 := (by rw [hw, Ny425.out]; exact HP19.1); clear HP19; have n0_ := Aside0.mk (hp_); have n1_ := Aside0.mk (IsS51.grown (HI0.out) hg (IsS51.own_ne HI0.out HO_3.out (by decide))); have n2_ := Aside0.mk (Kd.R_after (v := (.slice (some ⟨go13, 0, none⟩) x3_1.length co13)) (v1 := (.slice (some ⟨go13, 0, none⟩) x3_1.length co13)) (ok := (fun _ => True)) (HO421.out) hg (.inl rfl)); have n3_ := Aside0.mk ((by rw [hw]; exact below_set (HB.out) (Nat.le_trans HL.out GB13.out) : Below w0.heap.size w0 w20)); have n4_ := Aside0.mk (KeepBut.trans (HK.out) (KeepBut.of_grown hg g) (Kd.R_base2 HO_3.out)); clear HO_3; clear HI0; clear HO421; clear HB; clear HK; have HO_3 := n0_; have HI0 := n1_; have HO421 := n2_; have HB := n3_; have HK := n4_; clear n0_ n1_ n2_ n3_ n4_; clear hg hw hp_))
      go_ret
      exact ⟨_, by rfl, by exact Kd.R_mono HO_3.out (fun _ hk => trivial), HI0.out, HB.out, HK.out⟩
     ·rw [if_neg c12] at H
      exact absurd H (by simp)
    ·rw [if_neg c10] at H
     have c10b0 : (t416 == 0) = false := beq_eq_false_iff_ne.mpr c10
     have c10b1 : (t416 != 0) = true := bne_iff_ne.mpr c10
     by_cases c21 : t416 = 1
     ·rw [if_pos c21] at H
      have c21b0 : (t416 == 1) = true := beq_iff_eq.mpr c21
      have c21b1 : (t416 != 1) = false := bne_eq_false_iff_eq.mpr c21
      clear c21
      have H' := Aside0.mk H
      clear H
      go_wp2_with (first | ((with_reducible refine gate_callee (f := 38) rfl ?_); refine goesL_ (some 19) rfl rfl Try.func38 (by kernel_rfl) rfl #[.pointer (some ⟨g, 0, none⟩), .int .i64 14] rfl (by (try simp only [List.map_toArray, List.map_cons, List.map_nil]); rfl) ?_; (with_reducible refine (spec_l1Cur_pick.calls g s0_0 x1001_1 x1002_1 14 t416 t417 t418 w0 _ ?side1 ?side2 A9.out).mono ?_); (case side1 => exact HI0.out); (case side2 => exact HB.out); rintro e w22 ⟨rfl, hi, hb, hk⟩; refine ⟨_, rfl, ?_⟩; have n0_ := Aside0.mk (Kd.R_mono (Kd.R_keep (IsS51.apart (show IsS51 w0 _ g s0_0 x1001_1 x1002_1 from HI0.out) (HO_3.out) (by decide)) hk (fun _ h => h.2)) (fun _ h => h.1)); have n1_ := Aside0.mk (KeepBut.trans (HK.out) hk (.inl rfl)); have n2_ := Aside0.mk (hb); have n3_ := Aside0.mk (hi); clear HO_3; clear HK; clear HB; clear HI0; have HO_3 := n0_; have HK := n1_; have HB := n2_; have HI0 := n3_; clear n0_ n1_ n2_ n3_; clear hb; clear hk; clear hi))
      go_loopg [3] k1 (fun kq v3 w' => ∃ (x3_2 : List Int) (x1001_2 : Int) (x1002_2 : Int), Aside0 (spec_l1Cur_limits.l1 kq x3_2 s0_0 x1001_2 x1002_2 = some (r1, r2, r3)) ∧ Aside0 (kq ≤ k1) ∧ Aside0 (Kd.R (Kd.int .i64) 3 w' w.heap.size (fun _ => True) v3 x3_2) ∧ Aside0 (IsS51 w0 w' g s0_0 x1001_2 x1002_2) ∧ Aside0 (KeepBut w w' g none) ∧ Aside0 (Below w0.heap.size w0 w'))
      case atStart => exact ⟨(x3_1), (t417), (t418), H', ⟨Nat.le_refl _⟩, ⟨HO_3.out⟩, ⟨HI0.out⟩, ⟨HK.out⟩, ⟨HB.out⟩⟩
      case round =>
       clear H'
       try clear c1
       try clear p1
       try clear q1
       try clear hx1
       try clear qi1
       try clear hf1
       try clear c2
       try clear p2
       try clear c3
       try clear c4
       try clear c4b0
       try clear c6
       try clear p6
       try clear c10
       try clear c10b0
       try clear c10b1
       try clear c12
       try clear c12b0
       try clear c12b1
       try clear p13
       try clear q13
       try clear hx13
       try clear qi13
       try clear hf13
       try clear c21
       try clear c21b0
       try clear c21b1
       try clear hx13_0
       try clear p13
       try clear p2
       try clear q13
       obtain ⟨x3_2, x1001_2, x1002_2, HA, HK2, HO_3, HI0, HK, HB⟩ := hrel
       cases gk with
       | zero => exact absurd HA.out (by simp [spec_l1Cur_limits.l1])
       | succ k2 =>
        have H := HA.out
        clear HA
        simp only [spec_l1Cur_limits.l1] at H
        replace H := Option.bind_eq_some_iff.mp H
        obtain ⟨⟨t426, t427, t428⟩, A230, H⟩ := H
        try dsimp +instances only at H
        replace H := H
        have A23 := Aside0.mk A230
        clear A230
        by_cases c24 : (x3_2.length : Int) < (wrap64 (8 + t426))
        ·rw [if_pos c24] at H
         have c24b0 : decide ((x3_2.length : Int) < (wrap64 (8 + t426))) = true := decide_eq_true c24
         clear c24
         by_cases c25 : x3_2.length < 17592186044416
         ·rw [if_pos c25] at H
          have LMc25 := Aside0.mk c25
          clear c25
          obtain ⟨y429, hy429⟩ : ∃ y_ : List Int, y_ = (x3_2 ++ [20]) := ⟨_, rfl⟩
          replace H : (spec_l1Cur_limits.l1 k2 y429 s0_0 t427 t428) = some (r1, r2, r3) := by first | (rw [hy429]; with_reducible exact H) | (have H2_ := (Option.bind_some _ _).symm.trans H; rw [hy429]; with_reducible exact H2_) | (have H2_ := (Option.bind_some _ _).symm.trans H; with_reducible exact H2_) | with_reducible exact H | (rw [hy429]; exact H) | exact H
          have Ny429 := Aside0.mk hy429
          clear hy429
          have H' := Aside0.mk H
          clear H
          obtain ⟨Ao26, co26, eo26⟩ := Kd.R_slice HO_3.out
          subst eo26
          go_wp2_with (first | ((with_reducible refine gate_callee (f := 38) rfl ?_); refine goesL_ (some 32) rfl rfl Try.func38 (by kernel_rfl) rfl #[.pointer (some ⟨g, 0, none⟩), .int .i64 2] rfl (by (try simp only [List.map_toArray, List.map_cons, List.map_nil]); rfl) ?_; (with_reducible refine (spec_l1Cur_pick.calls g s0_0 x1001_2 x1002_2 2 t426 t427 t428 w0 _ ?side1 ?side2 A23.out).mono ?_); (case side1 => exact HI0.out); (case side2 => exact HB.out); rintro e w27 ⟨rfl, hi, hb, hk⟩; refine ⟨_, rfl, ?_⟩; have n0_ := Aside0.mk (Kd.R_mono (Kd.R_keep (IsS51.apart (show IsS51 w0 _ g s0_0 x1001_2 x1002_2 from HI0.out) (HO_3.out) (by decide)) hk (fun _ h => h.2)) (fun _ h => h.1)); have n1_ := Aside0.mk (KeepBut.trans (HK.out) hk (.inl rfl)); have n2_ := Aside0.mk (hb); have n3_ := Aside0.mk (hi); clear HO_3; clear HK; clear HB; clear HI0; have HO_3 := n0_; have HK := n1_; have HB := n2_; have HI0 := n3_; clear n0_ n1_ n2_ n3_; clear hb; clear hk; clear hi) | ((with_reducible refine gate_builtin (b := .append) (xs := #[.tmp 35, .tmp 36]) rfl ?_); at_builtin; refine Kd.R_append (Kd.int .i64) w.heap.size rfl (.tmp 35) (.tmp 36) 26 3 (.int .i64 0) 8 rfl Try.underlying26 info3 rfl (by decide) (by omega) (.slice Ao26 x3_2.length co26) x3_2 20 [.int .i64 20] (fun _ => True) (fun _ => False) rfl rfl ?aP (fun _ hk => hk.elim) ?aF ?aO (Below.refl _ _) ?aS ?aL ?_; (case aP => exact rfl); (case aF => exact (fun _ _ => trivial)); (case aO => exact (HO_3.out)); (case aS => exact (keep_size (w := w) (g := g) (row := none) (HK.out))); (case aL => have := LMc25.out; omega); intro v430 w28 ho hb hg hat; rw [← Ny429.out] at ho; have n0_ := Aside0.mk (IsS51.grown (HI0.out) hg (IsS51.own_ne HI0.out HO_3.out (by decide))); have n1_ := Aside0.mk (below_weaken (HB.out) HL.out hb); have n2_ := Aside0.mk (KeepBut.trans (HK.out) (KeepBut.of_grown hg g) (Kd.R_base2 HO_3.out)); have n3_ := Aside0.mk (ho); clear HI0; clear HB; clear HK; clear HO_3; have HI0 := n0_; have HB := n1_; have HK := n2_; have HO431 := n3_; clear n0_ n1_ n2_ n3_; clear ho hb hg hat))
          go_roundg k2
          case measure => have := HK1.out; have := HK2.out; omega
          case rel => exact ⟨(y429), (t427), (t428), H', ⟨by have := HK1.out; have := HK2.out; omega⟩, ⟨HO431.out⟩, ⟨HI0.out⟩, ⟨HK.out⟩, ⟨HB.out⟩⟩
         ·rw [if_neg c25] at H
          exact absurd H (by simp)
        ·rw [if_neg c24] at H
         have c24b0 : decide ((x3_2.length : Int) < (wrap64 (8 + t426))) = false := decide_eq_false c24
         clear c24
         simp only [Option.some.injEq, Prod.mk.injEq] at H
         obtain ⟨rfl, rfl, rfl⟩ := H
         obtain ⟨Ao29, co29, eo29⟩ := Kd.R_slice HO_3.out
         subst eo29
         go_wp2_with (first | ((with_reducible refine gate_callee (f := 38) rfl ?_); refine goesL_ (some 32) rfl rfl Try.func38 (by kernel_rfl) rfl #[.pointer (some ⟨g, 0, none⟩), .int .i64 2] rfl (by (try simp only [List.map_toArray, List.map_cons, List.map_nil]); rfl) ?_; (with_reducible refine (spec_l1Cur_pick.calls g s0_0 x1001_2 x1002_2 2 t426 t427 t428 w0 _ ?side1 ?side2 A23.out).mono ?_); (case side1 => exact HI0.out); (case side2 => exact HB.out); rintro e w30 ⟨rfl, hi, hb, hk⟩; refine ⟨_, rfl, ?_⟩; have n0_ := Aside0.mk (Kd.R_mono (Kd.R_keep (IsS51.apart (show IsS51 w0 _ g s0_0 x1001_2 x1002_2 from HI0.out) (HO_3.out) (by decide)) hk (fun _ h => h.2)) (fun _ h => h.1)); have n1_ := Aside0.mk (KeepBut.trans (HK.out) hk (.inl rfl)); have n2_ := Aside0.mk (hb); have n3_ := Aside0.mk (hi); clear HO_3; clear HK; clear HB; clear HI0; have HO_3 := n0_; have HK := n1_; have HB := n2_; have HI0 := n3_; clear n0_ n1_ n2_ n3_; clear hb; clear hk; clear hi))
         go_ret
         exact ⟨_, by rfl, HO_3.out, HI0.out, HB.out, HK.out⟩
     ·rw [if_neg c21] at H
      have c21b0 : (t416 == 1) = false := beq_eq_false_iff_ne.mpr c21
      have c21b1 : (t416 != 1) = true := bne_iff_ne.mpr c21
      by_cases c31 : t416 = 2
      ·rw [if_pos c31] at H
       have c31b0 : (t416 == 2) = true := beq_iff_eq.mpr c31
       have c31b1 : (t416 != 2) = false := bne_eq_false_iff_eq.mpr c31
       clear c31
       simp only [Option.some.injEq, Prod.mk.injEq] at H
       obtain ⟨rfl, rfl, rfl⟩ := H
       go_wp2_with (first | ((with_reducible refine gate_callee (f := 38) rfl ?_); refine goesL_ (some 19) rfl rfl Try.func38 (by kernel_rfl) rfl #[.pointer (some ⟨g, 0, none⟩), .int .i64 14] rfl (by (try simp only [List.map_toArray, List.map_cons, List.map_nil]); rfl) ?_; (with_reducible refine (spec_l1Cur_pick.calls g s0_0 x1001_1 x1002_1 14 t416 t417 t418 w0 _ ?side1 ?side2 A9.out).mono ?_); (case side1 => exact HI0.out); (case side2 => exact HB.out); rintro e w32 ⟨rfl, hi, hb, hk⟩; refine ⟨_, rfl, ?_⟩; have n0_ := Aside0.mk (Kd.R_mono (Kd.R_keep (IsS51.apart (show IsS51 w0 _ g s0_0 x1001_1 x1002_1 from HI0.out) (HO_3.out) (by decide)) hk (fun _ h => h.2)) (fun _ h => h.1)); have n1_ := Aside0.mk (KeepBut.trans (HK.out) hk (.inl rfl)); have n2_ := Aside0.mk (hb); have n3_ := Aside0.mk (hi); clear HO_3; clear HK; clear HB; clear HI0; have HO_3 := n0_; have HK := n1_; have HB := n2_; have HI0 := n3_; clear n0_ n1_ n2_ n3_; clear hb; clear hk; clear hi))
       go_ret
       exact ⟨_, by rfl, by exact Kd.R_nil _ _ _ _ _, HI0.out, HB.out, HK.out⟩
      ·rw [if_neg c31] at H
       have c31b0 : (t416 == 2) = false := beq_eq_false_iff_ne.mpr c31
       have c31b1 : (t416 != 2) = true := bne_iff_ne.mpr c31
       simp only [Option.some.injEq, Prod.mk.injEq] at H
       obtain ⟨rfl, rfl, rfl⟩ := H
       go_wp2_with (first | ((with_reducible refine gate_callee (f := 38) rfl ?_); refine goesL_ (some 19) rfl rfl Try.func38 (by kernel_rfl) rfl #[.pointer (some ⟨g, 0, none⟩), .int .i64 14] rfl (by (try simp only [List.map_toArray, List.map_cons, List.map_nil]); rfl) ?_; (with_reducible refine (spec_l1Cur_pick.calls g s0_0 x1001_1 x1002_1 14 t416 t417 t418 w0 _ ?side1 ?side2 A9.out).mono ?_); (case side1 => exact HI0.out); (case side2 => exact HB.out); rintro e w33 ⟨rfl, hi, hb, hk⟩; refine ⟨_, rfl, ?_⟩; have n0_ := Aside0.mk (Kd.R_mono (Kd.R_keep (IsS51.apart (show IsS51 w0 _ g s0_0 x1001_1 x1002_1 from HI0.out) (HO_3.out) (by decide)) hk (fun _ h => h.2)) (fun _ h => h.1)); have n1_ := Aside0.mk (KeepBut.trans (HK.out) hk (.inl rfl)); have n2_ := Aside0.mk (hb); have n3_ := Aside0.mk (hi); clear HO_3; clear HK; clear HB; clear HI0; have HO_3 := n0_; have HK := n1_; have HB := n2_; have HI0 := n3_; clear n0_ n1_ n2_ n3_; clear hb; clear hk; clear hi))
       go_ret
       exact ⟨_, by rfl, HO_3.out, HI0.out, HB.out, HK.out⟩
def spec_nuLimits.f (k : Nat) (l0 : List Int) : Option (Bool) := (spec_l1In.f (l0.length : Int) 1 8).bind fun t432 => (if t432 = true then ((spec_l1All.f k l0 1 20).bind fun t433 => (some t433)) else (some false))
theorem spec_nuLimits.calls (k : Nat) (A0 : Option Addr) (c0 : Nat) (l0 : List Int) (r : Bool) (w : World) (hr0 : Kd.C (Kd.int .i64) w A0 l0.length l0) (hc0 : l0.length ≤ c0) (h : spec_nuLimits.f k l0 = some r) :
  Calls Try.prog 67 #[.slice A0 l0.length c0] w fun e w' => e = .returned (.bool r) ∧ Drawn0 w w' := by
 have HR0 := Aside0.mk hr0
 have HC0 := Aside0.mk hc0
 clear hr0 hc0
 unfold spec_nuLimits.f at h
 have H := h
 clear h
 replace H := Option.bind_eq_some_iff.mp H
 obtain ⟨t432, A20, H⟩ := H
 try dsimp +instances only at H
 replace H := H
 have A2 := Aside0.mk A20
 clear A20
 by_cases c3 : t432 = true
 ·subst c3
  rw [if_pos rfl] at H
  have H1 := H
  clear H
  have H := H1
  clear H1
  replace H := Option.bind_eq_some_iff.mp H
  obtain ⟨t433, A40, H⟩ := H
  try dsimp +instances only at H
  replace H := H
  have A4 := Aside0.mk A40
  clear A40
  obtain rfl := Option.some.inj H
  go_enter Try.func67, Try.ntmps67
  go_wp2_with (first | ((with_reducible refine gate_callee (f := 42) rfl ?_); refine goesL_ (some 5) rfl rfl Try.func42 (by kernel_rfl) rfl #[.int .i64 (l0.length : Int), .int .i64 1, .int .i64 8] rfl (by (try simp only [List.map_toArray, List.map_cons, List.map_nil]); rfl) ?_; (with_reducible refine (spec_l1In.calls (l0.length : Int) 1 8 true _ A2.out).mono ?_); rintro e w' ⟨rfl, ⟨nd, rfl⟩⟩; refine ⟨_, rfl, ?_⟩) | (go_at_call 64; (with_reducible refine (spec_l1All.calls k _ _ l0 1 20 t433 _ ?side1 ?side2 A4.out).mono ?_); (case side1 => exact HR0.out); (case side2 => exact HC0.out); rintro e w' ⟨rfl, ⟨nd, rfl⟩⟩))
  go_ret
  exact ⟨by rfl, by (apply Drawn0.step; exact Drawn0.refl _)⟩
 ·replace c3 := Bool.eq_false_iff.mpr c3
  subst c3
  rw [if_neg (show ¬ (false = true) by decide)] at H
  have H1 := H
  clear H
  have H := H1
  clear H1
  obtain rfl := Option.some.inj H
  go_enter Try.func67, Try.ntmps67
  go_wp2_with (first | ((with_reducible refine gate_callee (f := 42) rfl ?_); refine goesL_ (some 5) rfl rfl Try.func42 (by kernel_rfl) rfl #[.int .i64 (l0.length : Int), .int .i64 1, .int .i64 8] rfl (by (try simp only [List.map_toArray, List.map_cons, List.map_nil]); rfl) ?_; (with_reducible refine (spec_l1In.calls (l0.length : Int) 1 8 false _ A2.out).mono ?_); rintro e w' ⟨rfl, ⟨nd, rfl⟩⟩; refine ⟨_, rfl, ?_⟩))
  go_ret
  exact ⟨by rfl, by (apply Drawn0.step; exact Drawn0.refl _)⟩
end Go.Proofs.Ytcgilnmljflebaa.A
