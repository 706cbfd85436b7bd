-- written by a program of this session's over the kit's print (xp.py)
import Derived.Test.YtcgilnmljflebaaAx0
import Derived.Test.YtcgilnmljflebaaAx1
import Derived.Test.YtcgilnmljflebaaAx10
import Derived.Test.YtcgilnmljflebaaAx11
-- halved
namespace Go.Proofs.Ytcgilnmljflebaa.A
-- slim
set_option maxHeartbeats 8000000
set_option maxRecDepth 100000
open Go.RowKit Go.Proofs.YtcgilnmljflebaaW.PrintWords Go.Proofs.YtcgilnmljflebaaW.PrintLast Go.Proofs.YtcgilnmljflebaaW.PrintMore
attribute [local go_sem] max2_int min2_int max_two min_two max_three min_three max_four min_four   -- for this text's walks alone
set_option linter.unusedVariables false
set_option linter.unusedSimpArgs false
mutual
def spec_MixedAt.j0 : Nat → List Int → Int → Bool → Option (List Int × Bool)
 | 0, _, _, _ => none
 | k + 1, x0, x1, x20 => if x20 = true then (some (([] : List Int), false)) else (spec_MixedAt.l0 k x0 x1 ([] : List Int) (x0.length : Int) 0)
def spec_MixedAt.l0 : Nat → List Int → Int → List Int → Int → Int → Option (List Int × Bool)
 | 0, _, _, _, _, _ => none
 | k + 1, x0, x1, x6, x22, x23 => if x23 < x22 then (if 0 ≤ (wrap64 (x23 + 1)) then (if (wrap64 (x23 + 1)) ≤ (x0.length : Int) then ((spec_nuProduct.f k (x0.drop ((wrap64 (x23 + 1)) : Int).toNat)).bind fun t467 => (if t467 = 0 then (none) else (if (Int.tmod (wrap64 (Int.tdiv x1 t467)) 2) = 1 then (if x6.length < 17592186044416 then (spec_MixedAt.l0 k x0 (wrap64 ((wrap64 (t467 - 1)) - (Int.tmod x1 t467))) (x6 ++ [wrap64 (Int.tdiv x1 t467)]) x22 (wrap64 (x23 + 1))) else (none)) else (if x6.length < 17592186044416 then (spec_MixedAt.l0 k x0 (Int.tmod x1 t467) (x6 ++ [wrap64 (Int.tdiv x1 t467)]) x22 (wrap64 (x23 + 1))) else (none))))) else (none)) else (none)) else (some (x6, true))
end
def spec_MixedAt.f (k : Nat) (l0 : List Int) (a1 : Int) : Option (List Int × Bool) := (spec_nuLimits.f k l0).bind fun t463 => (if t463 = true then ((spec_nuProduct.f k l0).bind fun t464 => ((spec_l1In.f a1 0 (wrap64 (t464 - 1))).bind fun t465 => (spec_MixedAt.j0 k l0 a1 (!t465)))) else (spec_MixedAt.j0 k l0 a1 true))
theorem spec_MixedAt.calls (k : Nat) (A0 : Option Addr) (c0 : Nat) (l0 : List Int) (a1 : Int) (r1 : List Int) (r2 : Bool) (w : World) (hr0 : Kd.C (Kd.int .i64) w A0 l0.length l0) (hc0 : l0.length ≤ c0) (h : spec_MixedAt.f k l0 a1 = some (r1, r2)) :
  Calls Try.prog 31 #[.slice A0 l0.length c0, .int .i64 a1] w fun e w' => ∃ v0_ : Value, e = .returned (.tuple #[v0_, .bool r2]) ∧ Kd.R (Kd.int .i64) 3 w' w.heap.size (fun _ => True) v0_ r1 ∧ Below w.heap.size w w' := by
 have HR0 := Aside0.mk hr0
 have HC0 := Aside0.mk hc0
 clear hr0 hc0
 have HB := Aside0.mk (Below.refl w.heap.size w)
 unfold spec_MixedAt.f at h
 have H := h
 clear h
 have HC3 := Aside0.mk H
 clear H
 go_enter Try.func31, Try.ntmps31
 go_upto_region 1 with (fail)
 go_cut [20] (fun v20 wc => ∃ (kq : Nat) (x20_2 : Bool), v20 = .bool x20_2 ∧ Aside0 (spec_MixedAt.j0 kq l0 a1 x20_2 = some (r1, r2)) ∧ Aside0 (kq ≤ k) ∧ Aside0 (Below w.heap.size w wc))
 case first =>
  have H := HC3.out
  clear HC3
  replace H := Option.bind_eq_some_iff.mp H
  obtain ⟨t463, A40, H⟩ := H
  try dsimp +instances only at H
  replace H := H
  have A4 := Aside0.mk A40
  clear A40
  by_cases c5 : t463 = true
  ·subst c5
   rw [if_pos rfl] at H
   have H1 := H
   clear H
   have H := H1
   clear H1
   replace H := Option.bind_eq_some_iff.mp H
   obtain ⟨t464, A60, H⟩ := H
   try dsimp +instances only at H
   replace H := H
   have A6 := Aside0.mk A60
   clear A60
   replace H := Option.bind_eq_some_iff.mp H
   obtain ⟨t465, A70, H⟩ := H
   try dsimp +instances only at H
   replace H := H
   have A7 := Aside0.mk A70
   clear A70
   have H' := Aside0.mk H
   clear H
   go_wp2_with (first | ((with_reducible refine gate_callee (f := 67) rfl ?_); refine goesL_ (some 11) rfl rfl Try.func67 (by kernel_rfl) rfl #[.slice A0 l0.length c0] rfl (by (try simp only [List.map_toArray, List.map_cons, List.map_nil]); rfl) ?_; (with_reducible refine (spec_nuLimits.calls k _ _ l0 true _ ?side1 ?side2 A4.out).mono ?_); (case side1 => repeat (first | exact (Kd.C_below HR0.out HB.out) | (with_reducible refine Kd.C_alloc ?_ _) | (with_reducible refine Kd.C_drewN ?_ _) | (with_reducible refine Kd.C_drew ?_))); (case side2 => exact HC0.out); rintro e w' ⟨rfl, ⟨nd, rfl⟩⟩; refine ⟨_, rfl, ?_⟩) | (go_at_call 68; (with_reducible refine (spec_nuProduct.calls k _ _ l0 t464 _ ?side1 ?side2 A6.out).mono ?_); (case side1 => repeat (first | exact (Kd.C_below HR0.out (by (apply pw_below_drewN; exact HB.out))) | (with_reducible refine Kd.C_alloc ?_ _) | (with_reducible refine Kd.C_drewN ?_ _) | (with_reducible refine Kd.C_drew ?_))); (case side2 => exact HC0.out); rintro e w' ⟨rfl, ⟨nd, rfl⟩⟩) | (go_at_call 42; (with_reducible refine (spec_l1In.calls a1 0 (wrap64 (t464 - 1)) t465 _ A7.out).mono ?_); rintro e w' ⟨rfl, ⟨nd, rfl⟩⟩))
   go_meet
   case rel => exact ⟨_, (!t465), (by rfl), H', ⟨by omega⟩, ⟨by (apply pw_below_drewN; exact HB.out)⟩⟩
  ·replace c5 := Bool.eq_false_iff.mpr c5
   subst c5
   rw [if_neg (show ¬ (false = true) by decide)] at H
   have H1 := H
   clear H
   have H := H1
   clear H1
   have H' := Aside0.mk H
   clear H
   go_wp2_with (first | ((with_reducible refine gate_callee (f := 67) rfl ?_); refine goesL_ (some 11) rfl rfl Try.func67 (by kernel_rfl) rfl #[.slice A0 l0.length c0] rfl (by (try simp only [List.map_toArray, List.map_cons, List.map_nil]); rfl) ?_; (with_reducible refine (spec_nuLimits.calls k _ _ l0 false _ ?side1 ?side2 A4.out).mono ?_); (case side1 => repeat (first | exact (Kd.C_below HR0.out HB.out) | (with_reducible refine Kd.C_alloc ?_ _) | (with_reducible refine Kd.C_drewN ?_ _) | (with_reducible refine Kd.C_drew ?_))); (case side2 => exact HC0.out); rintro e w' ⟨rfl, ⟨nd, rfl⟩⟩; refine ⟨_, rfl, ?_⟩))
   go_meet
   case rel => exact ⟨_, (true), (by rfl), H', ⟨by omega⟩, ⟨by (apply pw_below_drewN; exact HB.out)⟩⟩
 case rest =>
  clear HC3
  try clear p2
  try clear c3
  try clear c5
  try clear c6
  try clear p6
  obtain ⟨kq, x20_2, rfl, HA, HJ2, HB⟩ := hcut
  cases kq with
  | zero => exact absurd HA.out (by simp [spec_MixedAt.j0])
  | succ kj2 =>
   have H := HA.out
   clear HA
   simp only [spec_MixedAt.j0] at H
   by_cases c8 : x20_2 = true
   ·subst c8
    rw [if_pos rfl] at H
    have H1 := H
    clear H
    have H := H1
    clear H1
    simp only [Option.some.injEq, Prod.mk.injEq] at H
    obtain ⟨rfl, rfl⟩ := H
    go_wp2
    go_ret2
    exact ⟨_, by rfl, by exact Kd.R_nil _ _ _ _ _, HB.out⟩
   ·replace c8 := Bool.eq_false_iff.mpr c8
    subst c8
    rw [if_neg (show ¬ (false = true) by decide)] at H
    have H1 := H
    clear H
    have H := H1
    clear H1
    have H' := Aside0.mk H
    clear H
    go_wp2
    go_loopg [1, 6, 23] kj2 (fun kq v1 v6 v23 w' => ∃ (x1_2 : Int) (x6_2 : List Int) (x23_2 : Int), v1 = .int .i64 x1_2 ∧ v23 = .int .i64 x23_2 ∧ Aside0 (spec_MixedAt.l0 kq l0 x1_2 x6_2 (l0.length : Int) x23_2 = some (r1, r2)) ∧ Aside0 (kq ≤ kj2) ∧ Aside0 (Kd.R (Kd.int .i64) 3 w' w.heap.size (fun _ => True) v6 x6_2) ∧ Aside0 (Below w.heap.size w w'))
    case atStart => exact ⟨(a1), (([] : List Int)), (0), (by rfl), (by rfl), H', ⟨Nat.le_refl _⟩, ⟨by exact Kd.R_nil _ _ _ _ _⟩, ⟨HB.out⟩⟩
    case round =>
     clear H'
     try clear p2
     try clear c3
     try clear c5
     try clear c6
     try clear p6
     try clear c8
     try clear p2
     try clear p6
     obtain ⟨x1_2, x6_2, x23_2, rfl, rfl, HA, HK2, HO_6, HB⟩ := hrel
     cases gk with
     | zero => exact absurd HA.out (by simp [spec_MixedAt.l0])
     | succ k2 =>
      have H := HA.out
      clear HA
      simp only [spec_MixedAt.l0] at H
      by_cases c9 : x23_2 < (l0.length : Int)
      ·rw [if_pos c9] at H
       have c9b0 : decide (x23_2 < (l0.length : Int)) = true := decide_eq_true c9
       clear c9
       obtain ⟨ji10, hji10⟩ : ∃ j_ : Int, (wrap64 (x23_2 + 1)) = j_ := ⟨_, rfl⟩
       replace H : (if 0 ≤ (ji10) then (if (ji10) ≤ (l0.length : Int) then ((spec_nuProduct.f k2 (l0.drop ((ji10) : Int).toNat)).bind fun t467 => (if t467 = 0 then (none) else (if (Int.tmod (wrap64 (Int.tdiv x1_2 t467)) 2) = 1 then (if x6_2.length < 17592186044416 then (spec_MixedAt.l0 k2 l0 (wrap64 ((wrap64 (t467 - 1)) - (Int.tmod x1_2 t467))) (x6_2 ++ [wrap64 (Int.tdiv x1_2 t467)]) (l0.length : Int) ji10) else (none)) else (if x6_2.length < 17592186044416 then (spec_MixedAt.l0 k2 l0 (Int.tmod x1_2 t467) (x6_2 ++ [wrap64 (Int.tdiv x1_2 t467)]) (l0.length : Int) ji10) else (none))))) else (none)) else (none)) = some (r1, r2) := by first | (rw [hji10] at H; exact H) | (simp only [hji10] at H ⊢; exact H)
       have hji10w : (IntKind.i64.wrap (x23_2 + 1)) = ji10 := (i64_w _).trans hji10
       by_cases c11 : 0 ≤ (ji10)
       ·rw [if_pos c11] at H
        have c11b0 := eq_true c11
        have c11b1 : decide (0 ≤ (ji10)) = true := decide_eq_true c11
        clear c11
        by_cases c12 : (ji10) ≤ (l0.length : Int)
        ·rw [if_pos c12] at H
         have c12b0 := eq_true c12
         have c12b1 : decide ((ji10) ≤ (l0.length : Int)) = true := decide_eq_true c12
         clear c12
         replace H := Option.bind_eq_some_iff.mp H
         obtain ⟨t467, A130, H⟩ := H
         try dsimp +instances only at H
         replace H := H
         have A13 := Aside0.mk A130
         clear A130
         by_cases c14 : t467 = 0
         ·rw [if_pos c14] at H
          exact absurd H (by simp)
         ·rw [if_neg c14] at H
          have c14b0 : (t467 == 0) = false := beq_eq_false_iff_ne.mpr c14
          have c14b1 : (t467 != 0) = true := bne_iff_ne.mpr c14
          by_cases c15 : (Int.tmod (wrap64 (Int.tdiv x1_2 t467)) 2) = 1
          ·rw [if_pos c15] at H
           have c15b0 : ((Int.tmod (wrap64 (Int.tdiv x1_2 t467)) 2) == 1) = true := beq_iff_eq.mpr c15
           have c15b1 : ((Int.tmod (wrap64 (Int.tdiv x1_2 t467)) 2) != 1) = false := bne_eq_false_iff_eq.mpr c15
           clear c15
           by_cases c16 : x6_2.length < 17592186044416
           ·rw [if_pos c16] at H
            have LMc16 := Aside0.mk c16
            clear c16
            obtain ⟨y468, hy468⟩ : ∃ y_ : List Int, y_ = (x6_2 ++ [wrap64 (Int.tdiv x1_2 t467)]) := ⟨_, rfl⟩
            replace H : (spec_MixedAt.l0 k2 l0 (wrap64 ((wrap64 (t467 - 1)) - (Int.tmod x1_2 t467))) y468 (l0.length : Int) ji10) = some (r1, r2) := by first | (rw [hy468]; with_reducible exact H) | (have H2_ := (Option.bind_some _ _).symm.trans H; rw [hy468]; with_reducible exact H2_) | (have H2_ := (Option.bind_some _ _).symm.trans H; with_reducible exact H2_) | with_reducible exact H | (rw [hy468]; exact H) | exact H
            have Ny468 := Aside0.mk hy468
            clear hy468
            have H' := Aside0.mk H
            clear H
            obtain ⟨i017, hi017, _, hsz17, _⟩ := info_parts info3
            obtain ⟨A17, hcut17, hA17, hC17⟩ := print_drop_of (P := Try.prog) (Value.int .i64) 0 26 3 .i64 Try.underlying26 hi017 hsz17 A0 c0 l0 (ji10) (of_decide_eq_true (by with_reducible assumption)) (of_decide_eq_true (by with_reducible assumption)) HC0.out
            have HR466 := Aside0.mk (Kd.C_of_reads (h1 := fun _ => rfl) (hA17 _ (Kd.reads_of_C HR0.out)))
            have HC466 := Aside0.mk hC17
            clear hA17 hC17 hi017 hsz17
            go_wp2_with (first | ((with_reducible refine gate_callee (f := 68) rfl ?_); refine goesL_ (some 30) rfl rfl Try.func68 (by kernel_rfl) rfl #[.slice A17 (l0.drop ((ji10) : Int).toNat).length (c0 - (ji10).toNat)] rfl (by (try simp only [List.map_toArray, List.map_cons, List.map_nil]); first | done | (rw [show (l0.drop ((ji10) : Int).toNat).length = (l0.length - (ji10).toNat) from List.length_drop] <;> rfl) | (simp only [hji10]; rfl) | rfl | (simp only [List.length_drop, List.length_take]; rfl)) ?_; (with_reducible refine (spec_nuProduct.calls k2 _ _ (l0.drop ((ji10) : Int).toNat) t467 _ ?side1 ?side2 A13.out).mono ?_); (case side1 => repeat (first | exact (Kd.C_below HR466.out HB.out) | (with_reducible refine Kd.C_alloc ?_ _) | (with_reducible refine Kd.C_drewN ?_ _) | (with_reducible refine Kd.C_drew ?_))); (case side2 => exact HC466.out); rintro e w' ⟨rfl, ⟨nd, rfl⟩⟩; refine ⟨_, rfl, ?_⟩) | ((with_reducible refine gate_builtin (b := .append) (xs := #[.tmp 44, .tmp 46]) rfl ?_); at_builtin; refine Kd.R_append (Kd.int .i64) (w0 := w) w.heap.size rfl (.tmp 44) (.tmp 46) 26 3 (.int .i64 0) 8 rfl Try.underlying26 info3 rfl (by decide) (by omega) u6 x6_2 (wrap64 (Int.tdiv x1_2 t467)) [.int .i64 (wrap64 (Int.tdiv x1_2 t467))] (fun _ => True) (fun _ => False) rfl rfl ?aP (fun _ hk => hk.elim) ?aF ?aO ?aB ?aS ?aL ?_; (case aP => exact rfl); (case aB => exact (by (apply pw_below_drewN; exact HB.out))); (case aF => exact (fun _ _ => trivial)); (case aO => exact (by apply Kd.R_drewN; exact HO_6.out)); (case aS => exact (below_size (by (apply pw_below_drewN; exact HB.out)))); (case aL => have := LMc16.out; omega); intro v469 w18 ho hb hg hat; rw [← Ny468.out] at ho; have n0_ := Aside0.mk (hb); have n1_ := Aside0.mk (ho); clear HB; clear HO_6; have HB := n0_; have HO470 := n1_; clear n0_ n1_; clear ho hb hg hat))
            go_roundg k2
            case measure => have := HJ2.out; have := HK2.out; omega
            case rel => exact ⟨(wrap64 ((wrap64 (t467 - 1)) - (Int.tmod x1_2 t467))), (y468), (ji10), (by rfl), (by first | rfl | (simp; done) | (simp only [← hji10] <;> (first | rfl | simp)) | (simp [*]; done)), H', ⟨by have := HJ2.out; have := HK2.out; omega⟩, ⟨HO470.out⟩, ⟨HB.out⟩⟩
           ·rw [if_neg c16] at H
            exact absurd H (by simp)
          ·rw [if_neg c15] at H
           have c15b0 : ((Int.tmod (wrap64 (Int.tdiv x1_2 t467)) 2) == 1) = false := beq_eq_false_iff_ne.mpr c15
           have c15b1 : ((Int.tmod (wrap64 (Int.tdiv x1_2 t467)) 2) != 1) = true := bne_iff_ne.mpr c15
           by_cases c19 : x6_2.length < 17592186044416
           ·rw [if_pos c19] at H
            have LMc19 := Aside0.mk c19
            clear c19
            obtain ⟨y471, hy471⟩ : ∃ y_ : List Int, y_ = (x6_2 ++ [wrap64 (Int.tdiv x1_2 t467)]) := ⟨_, rfl⟩
            replace H : (spec_MixedAt.l0 k2 l0 (Int.tmod x1_2 t467) y471 (l0.length : Int) ji10) = some (r1, r2) := by first | (rw [hy471]; with_reducible exact H) | (have H2_ := (Option.bind_some _ _).symm.trans H; rw [hy471]; with_reducible exact H2_) | (have H2_ := (Option.bind_some _ _).symm.trans H; with_reducible exact H2_) | with_reducible exact H | (rw [hy471]; exact H) | exact H
            have Ny471 := Aside0.mk hy471
            clear hy471
            have H' := Aside0.mk H
            clear H
            obtain ⟨i020, hi020, _, hsz20, _⟩ := info_parts info3
            obtain ⟨A20, hcut20, hA20, hC20⟩ := print_drop_of (P := Try.prog) (Value.int .i64) 0 26 3 .i64 Try.underlying26 hi020 hsz20 A0 c0 l0 (ji10) (of_decide_eq_true (by with_reducible assumption)) (of_decide_eq_true (by with_reducible assumption)) HC0.out
            have HR466 := Aside0.mk (Kd.C_of_reads (h1 := fun _ => rfl) (hA20 _ (Kd.reads_of_C HR0.out)))
            have HC466 := Aside0.mk hC20
            clear hA20 hC20 hi020 hsz20
            go_wp2_with (first | ((with_reducible refine gate_callee (f := 68) rfl ?_); refine goesL_ (some 30) rfl rfl Try.func68 (by kernel_rfl) rfl #[.slice A20 (l0.drop ((ji10) : Int).toNat).length (c0 - (ji10).toNat)] rfl (by (try simp only [List.map_toArray, List.map_cons, List.map_nil]); first | done | (rw [show (l0.drop ((ji10) : Int).toNat).length = (l0.length - (ji10).toNat) from List.length_drop] <;> rfl) | (simp only [hji10]; rfl) | rfl | (simp only [List.length_drop, List.length_take]; rfl)) ?_; (with_reducible refine (spec_nuProduct.calls k2 _ _ (l0.drop ((ji10) : Int).toNat) t467 _ ?side1 ?side2 A13.out).mono ?_); (case side1 => repeat (first | exact (Kd.C_below HR466.out HB.out) | (with_reducible refine Kd.C_alloc ?_ _) | (with_reducible refine Kd.C_drewN ?_ _) | (with_reducible refine Kd.C_drew ?_))); (case side2 => exact HC466.out); rintro e w' ⟨rfl, ⟨nd, rfl⟩⟩; refine ⟨_, rfl, ?_⟩) | ((with_reducible refine gate_builtin (b := .append) (xs := #[.tmp 44, .tmp 46]) rfl ?_); at_builtin; refine Kd.R_append (Kd.int .i64) (w0 := w) w.heap.size rfl (.tmp 44) (.tmp 46) 26 3 (.int .i64 0) 8 rfl Try.underlying26 info3 rfl (by decide) (by omega) u6 x6_2 (wrap64 (Int.tdiv x1_2 t467)) [.int .i64 (wrap64 (Int.tdiv x1_2 t467))] (fun _ => True) (fun _ => False) rfl rfl ?aP (fun _ hk => hk.elim) ?aF ?aO ?aB ?aS ?aL ?_; (case aP => exact rfl); (case aB => exact (by (apply pw_below_drewN; exact HB.out))); (case aF => exact (fun _ _ => trivial)); (case aO => exact (by apply Kd.R_drewN; exact HO_6.out)); (case aS => exact (below_size (by (apply pw_below_drewN; exact HB.out)))); (case aL => have := LMc19.out; omega); intro v472 w21 ho hb hg hat; rw [← Ny471.out] at ho; have n0_ := Aside0.mk (hb); have n1_ := Aside0.mk (ho); clear HB; clear HO_6; have HB := n0_; have HO473 := n1_; clear n0_ n1_; clear ho hb hg hat))
            go_roundg k2
            case measure => have := HJ2.out; have := HK2.out; omega
            case rel => exact ⟨(Int.tmod x1_2 t467), (y471), (ji10), (by rfl), (by first | rfl | (simp; done) | (simp only [← hji10] <;> (first | rfl | simp)) | (simp [*]; done)), H', ⟨by have := HJ2.out; have := HK2.out; omega⟩, ⟨HO473.out⟩, ⟨HB.out⟩⟩
           ·rw [if_neg c19] at H
            exact absurd H (by simp)
        ·rw [if_neg c12] at H
         exact absurd H (by simp)
       ·rw [if_neg c11] at H
        exact absurd H (by simp)
      ·rw [if_neg c9] at H
       have c9b0 : decide (x23_2 < (l0.length : Int)) = false := decide_eq_false c9
       clear c9
       simp only [Option.some.injEq, Prod.mk.injEq] at H
       obtain ⟨rfl, rfl⟩ := H
       go_wp2
       go_ret2
       exact ⟨_, by rfl, HO_6.out, HB.out⟩
def spec_l1Most.f (a0 : Int) (a1 : Int) : Option (Int) := if a0 > a1 then (some a0) else (some a1)
theorem spec_l1Most.calls (a0 : Int) (a1 : Int) (r : Int) (w : World) (h : spec_l1Most.f a0 a1 = some r) :
  Calls Try.prog 71 #[.int .i64 a0, .int .i64 a1] w fun e w' => e = .returned (.int .i64 r) ∧ Drawn0 w w' := by
 unfold spec_l1Most.f at h
 have H := h
 clear h
 by_cases c3 : a0 > a1
 ·rw [if_pos c3] at H
  have c3b0 : decide (a1 < a0) = true := decide_eq_true c3
  clear c3
  obtain rfl := Option.some.inj H
  go_enter Try.func71, Try.ntmps71
  go_wp2
  go_ret
  exact ⟨by rfl, by exact Drawn0.refl _⟩
 ·rw [if_neg c3] at H
  have c3b0 : decide (a1 < a0) = false := decide_eq_false c3
  clear c3
  obtain rfl := Option.some.inj H
  go_enter Try.func71, Try.ntmps71
  go_wp2
  go_ret
  exact ⟨by rfl, by exact Drawn0.refl _⟩
mutual
def spec_DrawRankOfMixed_c.l0 : Nat → List Int → List Int → List Int → Int → Int → List Int → Int → Int → Option (List Int × List Int × Int × Int)
 | 0, _, _, _, _, _, _, _, _ => none
 | k + 1, x5, x6, x14, x15, x16, x1000, x1001, x1002 => if x16 < x15 then (if 0 ≤ x16 then (if x16 < (x14.length : Int) then ((spec_l1Most.f 1 (rd x14 x16)).bind fun t480 => ((spec_l1Cur_pick.f x1000 x1001 x1002 t480).bind fun bt481 => (if x6.length < 17592186044416 then (spec_DrawRankOfMixed_c.l0 k x5 (x6 ++ [bt481.1]) x14 x15 (wrap64 (x16 + 1)) x1000 bt481.2.1 bt481.2.2) else (none)))) else (none)) else (none)) else ((spec_l1Cur_one.f x1000 x1001 x1002 10).bind fun bt487 => (if bt487.1 = true then ((spec_l1Cur_among.f x1000 bt487.2.1 bt487.2.2 (([(-1), 0, 20] : List Int))).bind fun bt493 => (if x6.length < 17592186044416 then (spec_DrawRankOfMixed_c.j1 k x5 (x6 ++ [bt493.1]) x1000 bt493.2.1 bt493.2.2) else (none))) else (spec_DrawRankOfMixed_c.j1 k x5 x6 x1000 bt487.2.1 bt487.2.2)))
def spec_DrawRankOfMixed_c.j1 : Nat → List Int → List Int → List Int → Int → Int → Option (List Int × List Int × Int × Int)
 | 0, _, _, _, _, _ => none
 | k + 1, x5, x6, x1000, x1001, x1002 => (spec_l1Cur_one.f x1000 x1001 x1002 12).bind fun bt499 => (if bt499.1 = true then (if (x6.length : Int) > 0 then ((spec_l1Cur_among.f x1000 bt499.2.1 bt499.2.2 (([(-1), 5, 20, 4611686018427387904] : List Int))).bind fun bt505 => (if 0 < (x6.length : Int) then (some (x5, (x6.set (0 : Int).toNat bt505.1), bt505.2.1, bt505.2.2)) else (none))) else (some (x5, x6, bt499.2.1, bt499.2.2))) else (some (x5, x6, bt499.2.1, bt499.2.2)))
end
def spec_DrawRankOfMixed_c.f (k : Nat) (s0_0 : List Int) (s0_1 : Int) (s0_2 : Int) : Option (List Int × List Int × Int × Int) := (spec_l1Cur_limits.f k s0_0 s0_1 s0_2).bind fun bt474 => (spec_DrawRankOfMixed_c.l0 k bt474.1 ([] : List Int) bt474.1 (bt474.1.length : Int) 0 s0_0 bt474.2.1 bt474.2.2)
theorem spec_DrawRankOfMixed_c.at (k : Nat) (A0 : Option Addr) (c0 : Nat) (s0_0 : List Int) (s0_1 : Int) (s0_2 : Int) (r1 : List Int) (r2 : List Int) (r3 : Int) (r4 : Int) (w0 : World) (ez1 : s0_1 = 0) (ez2 : s0_2 = 0) (hr0 : Kd.C (Kd.int .u8) w0 A0 s0_0.length s0_0) (hc0 : s0_0.length ≤ c0) (h : spec_DrawRankOfMixed_c.f k s0_0 s0_1 s0_2 = some (r1, r2, r3, r4)) :
  Calls Try.prog 32 #[.slice A0 s0_0.length c0] w0 fun e w' => ∃ v0_ v1_ : Value, e = .returned (.tuple #[v0_, v1_]) ∧ Kd.R (Kd.int .i64) 3 w' w0.heap.size (fun k_ => some k_ ≠ (v1_ : Value).ownBlock) v0_ r1 ∧ Kd.R (Kd.int .i64) 3 w' w0.heap.size (fun k_ => some k_ ≠ (v0_ : Value).ownBlock) v1_ r2 ∧ Below w0.heap.size w0 w' := by
 have hu51 := Try.underlying51
 have HRA := Aside0.mk hr0
 have EZ1 := Aside0.mk ez1
 have EZ2 := Aside0.mk ez2
 clear hr0 ez1 ez2
 unfold spec_DrawRankOfMixed_c.f at h
 have H := h
 clear h
 replace H := Option.bind_eq_some_iff.mp H
 obtain ⟨⟨t474, t477, t478⟩, A20, H⟩ := H
 try dsimp +instances only at H
 replace H := H
 have A2 := Aside0.mk A20
 clear A20
 have H' := Aside0.mk H
 clear H
 go_enter Try.func32, Try.ntmps32
 try dsimp only [List.append]
 go_upto_region 2 with (first | ((with_reducible refine gate_dst (N := 11) rfl ?_); (try (refine gate_guard (by rfl) ?_; dsimp only)); refine box_event ?hg (N := 11) ?hd (cs := #[.slice A0 s0_0.length c0, .int .i64 0, .int .u64 0]) (t := 51) ?hr ?_; (case hd => rfl); (case hg => rfl); (case hr => first | (go_simp; done) | (go_simp; rfl)); intro g hgb w hbox hb; have HI0 := Aside0.mk (show IsS51 w0 w g s0_0 s0_1 s0_2 from ⟨A0, c0, by rw [EZ1.out, EZ2.out]; exact hbox, by rw [hgb]; exact Nat.le_refl _, HRA.out⟩); have HK := Aside0.mk (KeepBut.refl w g none); have HL := Aside0.mk hb.size; have HW0 := Aside0.mk hb.size; have HB := Aside0.mk hb; clear hb hbox hgb))
 (try simp only [Act.put, List.setIfInBounds_toArray, List.set_cons_zero, List.set_cons_succ])
 go_wp2_with (first | ((with_reducible refine gate_callee (f := 66) rfl ?_); refine goesL_ (some 13) rfl rfl Try.func66 (by kernel_rfl) rfl #[.pointer (some ⟨g, 0, none⟩)] rfl (by (try simp only [List.map_toArray, List.map_cons, List.map_nil]); rfl) ?_; (with_reducible refine (spec_l1Cur_limits.calls k g s0_0 s0_1 s0_2 t474 t477 t478 w0 _ ?side1 ?side2 A2.out).mono ?_); (case side1 => exact HI0.out); (case side2 => exact HB.out); rintro e w3 ⟨v475, rfl, ho0, hi, hb, hk⟩; refine ⟨_, rfl, ?_⟩; have n0_ := Aside0.mk (Kd.R_lower ho0 (keep_size (w := w) (g := g) (row := none) (HK.out))); have n1_ := Aside0.mk (KeepBut.trans (HK.out) hk (.inl rfl)); have n2_ := Aside0.mk (hb); have n3_ := Aside0.mk (hi); clear HK; clear HB; clear HI0; have HO476 := n0_; have HK := n1_; have HB := n2_; have HI0 := n3_; clear n0_ n1_ n2_ n3_; clear hb; clear hk; clear hi; clear ho0; obtain ⟨Ao4, co4, eo4⟩ := Kd.R_slice HO476.out; subst eo4))
 go_loopg [6, 16] k (fun kq v6 v16 w' => ∃ (x6_1 : List Int) (x16_1 : Int) (x1001_1 : Int) (x1002_1 : Int), v16 = .int .i64 x16_1 ∧ Aside0 (spec_DrawRankOfMixed_c.l0 kq t474 x6_1 t474 (t474.length : Int) x16_1 s0_0 x1001_1 x1002_1 = some (r1, r2, r3, r4)) ∧ Aside0 (kq ≤ k) ∧ Aside0 (Kd.R (Kd.int .i64) 3 w' w.heap.size (fun k_ => some k_ ≠ (v6 : Value).ownBlock) (.slice Ao4 t474.length co4) t474) ∧ Aside0 (Kd.R (Kd.int .i64) 3 w' w.heap.size (fun k_ => some k_ ≠ ((.slice Ao4 t474.length co4) : Value).ownBlock ∧ some k_ ≠ ((.slice Ao4 t474.length co4) : Value).ownBlock) v6 x6_1) ∧ Aside0 (Kd.R (Kd.int .i64) 3 w' w.heap.size (fun k_ => some k_ ≠ (v6 : Value).ownBlock) (.slice Ao4 t474.length co4) t474) ∧ Aside0 (IsS51 w0 w' g s0_0 x1001_1 x1002_1) ∧ Aside0 (KeepBut w w' g none) ∧ Aside0 (Below w0.heap.size w0 w'))
 case atStart => exact ⟨(([] : List Int)), (0), (t477), (t478), (by rfl), H', ⟨Nat.le_refl _⟩, ⟨by exact Kd.R_mono HO476.out (fun _ hk => (by simp [Value.ownBlock]))⟩, ⟨by exact Kd.R_nil _ _ _ _ _⟩, ⟨by exact Kd.R_mono HO476.out (fun _ hk => (by simp [Value.ownBlock]))⟩, ⟨HI0.out⟩, ⟨HK.out⟩, ⟨HB.out⟩⟩
 case round =>
  clear H'
  try clear p2
  try clear c3
  obtain ⟨x6_1, x16_1, x1001_1, x1002_1, rfl, HA, HK1, HO_5, HO_6, HO_14, HI0, HK, HB⟩ := hrel
  cases gk with
  | zero => exact absurd HA.out (by simp [spec_DrawRankOfMixed_c.l0])
  | succ k1 =>
   have H := HA.out
   clear HA
   simp only [spec_DrawRankOfMixed_c.l0] at H
   by_cases c5 : x16_1 < (t474.length : Int)
   ·rw [if_pos c5] at H
    have c5b0 : decide (x16_1 < (t474.length : Int)) = true := decide_eq_true c5
    clear c5
    by_cases c6 : 0 ≤ x16_1
    ·rw [if_pos c6] at H
     have c6b0 : decide (0 ≤ x16_1) = true := decide_eq_true c6
     clear c6
     by_cases c7 : x16_1 < (t474.length : Int)
     ·rw [if_pos c7] at H
      have c7b0 : decide (x16_1 < (t474.length : Int)) = true := decide_eq_true c7
      clear c7
      replace H := Option.bind_eq_some_iff.mp H
      obtain ⟨t480, A80, H⟩ := H
      try dsimp +instances only at H
      replace H := H
      have A8 := Aside0.mk A80
      clear A80
      replace H := Option.bind_eq_some_iff.mp H
      obtain ⟨⟨t481, t482, t483⟩, A90, H⟩ := H
      try dsimp +instances only at H
      replace H := H
      have A9 := Aside0.mk A90
      clear A90
      by_cases c10 : x6_1.length < 17592186044416
      ·rw [if_pos c10] at H
       have LMc10 := Aside0.mk c10
       clear c10
       obtain ⟨y484, hy484⟩ : ∃ y_ : List Int, y_ = (x6_1 ++ [t481]) := ⟨_, rfl⟩
       replace H : (spec_DrawRankOfMixed_c.l0 k1 t474 y484 t474 (t474.length : Int) (wrap64 (x16_1 + 1)) s0_0 t482 t483) = some (r1, r2, r3, r4) := by first | (rw [hy484]; with_reducible exact H) | (have H2_ := (Option.bind_some _ _).symm.trans H; rw [hy484]; with_reducible exact H2_) | (have H2_ := (Option.bind_some _ _).symm.trans H; with_reducible exact H2_) | with_reducible exact H | (rw [hy484]; exact H) | exact H
       have Ny484 := Aside0.mk hy484
       clear hy484
       have H' := Aside0.mk H
       clear H
       have p479 : 0 ≤ (x16_1 : Int) := of_decide_eq_true (by with_reducible assumption)
       have q479 : x16_1 < (t474.length : Int) := of_decide_eq_true (by with_reducible assumption)
       obtain ⟨ad479, e479, hx479_0⟩ := Kd.at_int (Kd.R_reads' HO_14.out).2.2 x16_1 p479 q479
       cases e479
       replace p479 := eq_true p479
       replace q479 := eq_true q479
       go_wp2_with (first | ((with_reducible refine gate_callee (f := 71) rfl ?_); refine goesL_ (some 23) rfl rfl Try.func71 (by kernel_rfl) rfl #[.int .i64 1, .int .i64 (rd t474 x16_1)] rfl (by (try simp only [List.map_toArray, List.map_cons, List.map_nil]); rfl) ?_; (with_reducible refine (spec_l1Most.calls 1 (rd t474 x16_1) t480 _ A8.out).mono ?_); rintro e w' ⟨rfl, ⟨nd, rfl⟩⟩; refine ⟨_, rfl, ?_⟩) | ((with_reducible refine gate_callee (f := 38) rfl ?_); refine goesL_ (some 24) rfl rfl Try.func38 (by kernel_rfl) rfl #[.pointer (some ⟨g, 0, none⟩), .int .i64 t480] rfl (by (try simp only [List.map_toArray, List.map_cons, List.map_nil]); rfl) ?_; (with_reducible refine (spec_l1Cur_pick.calls g s0_0 x1001_1 x1002_1 t480 t481 t482 t483 w0 _ ?side1 ?side2 A9.out).mono ?_); (case side1 => (apply IsS51.drewN; exact HI0.out)); (case side2 => (apply pw_below_drewN; exact HB.out)); rintro e w11 ⟨rfl, hi, hb, hk⟩; refine ⟨_, rfl, ?_⟩; have n0_ := Aside0.mk (Kd.R_mono (Kd.R_keep (IsS51.apart (show IsS51 w0 _ g s0_0 x1001_1 x1002_1 from by (apply IsS51.drewN; exact HI0.out)) (by apply Kd.R_drewN; exact HO_5.out) (by decide)) hk (fun _ h => h.2)) (fun _ h => h.1)); have n1_ := Aside0.mk (Kd.R_mono (Kd.R_keep (IsS51.apart (show IsS51 w0 _ g s0_0 x1001_1 x1002_1 from by (apply IsS51.drewN; exact HI0.out)) (by apply Kd.R_drewN; exact HO_6.out) (by decide)) hk (fun _ h => h.2)) (fun _ h => h.1)); have n2_ := Aside0.mk (Kd.R_mono (Kd.R_keep (IsS51.apart (show IsS51 w0 _ g s0_0 x1001_1 x1002_1 from by (apply IsS51.drewN; exact HI0.out)) (by apply Kd.R_drewN; exact HO_14.out) (by decide)) hk (fun _ h => h.2)) (fun _ h => h.1)); have n3_ := Aside0.mk (KeepBut.trans (by (apply keep_drewN; exact HK.out)) hk (.inl rfl)); have n4_ := Aside0.mk (hb); have n5_ := Aside0.mk (hi); clear HO_5; clear HO_6; clear HO_14; clear HK; clear HB; clear HI0; have HO_5 := n0_; have HO_6 := n1_; have HO_14 := n2_; have HK := n3_; have HB := n4_; have HI0 := n5_; clear n0_ n1_ n2_ n3_ n4_ n5_; clear hb; clear hk; clear hi) | ((with_reducible refine gate_builtin (b := .append) (xs := #[.tmp 20, .tmp 25]) rfl ?_); (try (refine gate_guard (by rfl) ?_; dsimp only)); at_builtin; refine Kd.R_append (Kd.int .i64) w.heap.size rfl (.tmp 20) (.tmp 25) 26 3 (.int .i64 0) 8 rfl Try.underlying26 info3 rfl (by decide) (by omega) u6 x6_1 t481 [.int .i64 t481] (fun k_ => some k_ ≠ (.slice (some ad479) t474.length co4 : Value).ownBlock ∧ some k_ ≠ (.slice (some ad479) t474.length co4 : Value).ownBlock) (fun _ => False) rfl rfl ?aP (fun _ hk => hk.elim) ?aF ?aO (Below.refl _ _) ?aS ?aL ?_; (case aP => exact rfl); (case aF => exact (fun k_ hk => ⟨Kd.fresh' (Kd.R_lt (HO_5.out)) k_ hk, Kd.fresh' (Kd.R_lt (HO_14.out)) k_ hk⟩)); (case aO => exact (HO_6.out)); (case aS => exact (keep_size (w := w) (g := g) (row := none) (HK.out))); (case aL => have := LMc10.out; omega); intro v485 w12 ho hb hg hat; rw [← Ny484.out] at ho; have n0_ := Aside0.mk (Kd.R_after (ok := (fun _ => True)) (by exact Kd.R_mono HO_5.out (fun _ hk => ⟨trivial, hk⟩)) hg hat); have n1_ := Aside0.mk (Kd.R_after (ok := (fun _ => True)) (by exact Kd.R_mono HO_14.out (fun _ hk => ⟨trivial, hk⟩)) hg hat); have n2_ := Aside0.mk (IsS51.grown (HI0.out) hg (IsS51.own_ne HI0.out HO_6.out (by decide))); have n3_ := Aside0.mk (below_weaken (HB.out) HL.out hb); have n4_ := Aside0.mk (KeepBut.trans (HK.out) (KeepBut.of_grown hg g) (Kd.R_base2 HO_6.out)); have n5_ := Aside0.mk (ho); clear HO_5; clear HO_14; clear HI0; clear HB; clear HK; clear HO_6; have HO_5 := n0_; have HO_14 := n1_; have HI0 := n2_; have HB := n3_; have HK := n4_; have HO486 := n5_; clear n0_ n1_ n2_ n3_ n4_ n5_; clear ho hb hg hat))
       go_roundg k1
       case measure => have := HK1.out; omega
       case rel => exact ⟨(y484), (wrap64 (x16_1 + 1)), (t482), (t483), (by rfl), H', ⟨by have := HK1.out; omega⟩, ⟨by exact Kd.R_mono HO_5.out (fun _ hk => hk.2)⟩, ⟨HO486.out⟩, ⟨by exact Kd.R_mono HO_14.out (fun _ hk => hk.2)⟩, ⟨HI0.out⟩, ⟨HK.out⟩, ⟨HB.out⟩⟩
      ·rw [if_neg c10] at H
       exact absurd H (by simp)
     ·rw [if_neg c7] at H
      exact absurd H (by simp)
    ·rw [if_neg c6] at H
     exact absurd H (by simp)
   ·rw [if_neg c5] at H
    have c5b0 : decide (x16_1 < (t474.length : Int)) = false := decide_eq_false c5
    clear c5
    replace H := Option.bind_eq_some_iff.mp H
    obtain ⟨⟨t487, t488, t489⟩, A130, H⟩ := H
    try dsimp +instances only at H
    replace H := H
    have A13 := Aside0.mk A130
    clear A130
    have HC14 := Aside0.mk H
    clear H
    go_upto_if 29 with (first | ((with_reducible refine gate_callee (f := 36) rfl ?_); refine goesL_ (some 29) rfl rfl Try.func36 (by kernel_rfl) rfl #[.pointer (some ⟨g, 0, none⟩), .int .i64 10] rfl (by (try simp only [List.map_toArray, List.map_cons, List.map_nil]); rfl) ?_; (with_reducible refine (spec_l1Cur_one.calls g s0_0 x1001_1 x1002_1 10 t487 t488 t489 w0 _ ?side1 ?side2 A13.out).mono ?_); (case side1 => exact HI0.out); (case side2 => exact HB.out); rintro e w15 ⟨rfl, hi, hb, hk⟩; refine ⟨_, rfl, ?_⟩; have n0_ := Aside0.mk (Kd.R_mono (Kd.R_keep (IsS51.apart (show IsS51 w0 _ g s0_0 x1001_1 x1002_1 from HI0.out) (HO_5.out) (by decide)) hk (fun _ h => h.2)) (fun _ h => h.1)); have n1_ := Aside0.mk (Kd.R_mono (Kd.R_keep (IsS51.apart (show IsS51 w0 _ g s0_0 x1001_1 x1002_1 from HI0.out) (HO_6.out) (by decide)) hk (fun _ h => h.2)) (fun _ h => h.1)); have n2_ := Aside0.mk (Kd.R_mono (Kd.R_keep (IsS51.apart (show IsS51 w0 _ g s0_0 x1001_1 x1002_1 from HI0.out) (HO_14.out) (by decide)) hk (fun _ h => h.2)) (fun _ h => h.1)); have n3_ := Aside0.mk (KeepBut.trans (HK.out) hk (.inl rfl)); have n4_ := Aside0.mk (hb); have n5_ := Aside0.mk (hi); clear HO_5; clear HO_6; clear HO_14; clear HK; clear HB; clear HI0; have HO_5 := n0_; have HO_6 := n1_; have HO_14 := n2_; have HK := n3_; have HB := n4_; have HI0 := n5_; clear n0_ n1_ n2_ n3_ n4_ n5_; clear hb; clear hk; clear hi))
    (try simp only [Act.put, List.setIfInBounds_toArray, List.set_cons_zero, List.set_cons_succ])
    go_cut [6] (fun v6 wc => ∃ (kq : Nat) (x6_13 : List Int) (x1001_13 : Int) (x1002_13 : Int), Aside0 (spec_DrawRankOfMixed_c.j1 kq t474 x6_13 s0_0 x1001_13 x1002_13 = some (r1, r2, r3, r4)) ∧ Aside0 (kq ≤ k1) ∧ Aside0 (Kd.R (Kd.int .i64) 3 wc w.heap.size (fun k_ => some k_ ≠ (v6 : Value).ownBlock) (.slice Ao4 t474.length co4) t474) ∧ Aside0 (Kd.R (Kd.int .i64) 3 wc w.heap.size (fun k_ => some k_ ≠ ((.slice Ao4 t474.length co4) : Value).ownBlock) v6 x6_13) ∧ Aside0 (IsS51 w0 wc g s0_0 x1001_13 x1002_13) ∧ Aside0 (KeepBut w wc g none) ∧ Aside0 (Below w0.heap.size w0 wc))
    case first =>
     have H := HC14.out
     clear HC14
     by_cases c16 : t487 = true
     ·subst c16
      rw [if_pos rfl] at H
      have H1 := H
      clear H
      have H := H1
      clear H1
      obtain ⟨y490, hy490⟩ : ∃ y_ : List Int, y_ = (([(-1), 0, 20] : List Int)) := ⟨_, rfl⟩
      replace H : ((spec_l1Cur_among.f s0_0 t488 t489 y490).bind fun bt493 => (if x6_1.length < 17592186044416 then (spec_DrawRankOfMixed_c.j1 k1 t474 (x6_1 ++ [bt493.1]) s0_0 bt493.2.1 bt493.2.2) else (none))) = some (r1, r2, r3, r4) := by first | (rw [hy490]; with_reducible exact H) | (have H2_ := (Option.bind_some _ _).symm.trans H; rw [hy490]; with_reducible exact H2_) | (have H2_ := (Option.bind_some _ _).symm.trans H; with_reducible exact H2_) | with_reducible exact H | (rw [hy490]; exact H) | exact H
      have Ny490 := Aside0.mk hy490
      clear hy490
      replace H := Option.bind_eq_some_iff.mp H
      obtain ⟨⟨t493, t494, t495⟩, A170, H⟩ := H
      try dsimp +instances only at H
      replace H := H
      have A17 := Aside0.mk A170
      clear A170
      by_cases c18 : x6_1.length < 17592186044416
      ·rw [if_pos c18] at H
       have LMc18 := Aside0.mk c18
       clear c18
       obtain ⟨y496, hy496⟩ : ∃ y_ : List Int, y_ = (x6_1 ++ [t493]) := ⟨_, rfl⟩
       replace H : (spec_DrawRankOfMixed_c.j1 k1 t474 y496 s0_0 t494 t495) = some (r1, r2, r3, r4) := by first | (rw [hy496]; with_reducible exact H) | (have H2_ := (Option.bind_some _ _).symm.trans H; rw [hy496]; with_reducible exact H2_) | (have H2_ := (Option.bind_some _ _).symm.trans H; with_reducible exact H2_) | with_reducible exact H | (rw [hy496]; exact H) | exact H
       have Ny496 := Aside0.mk hy496
       clear hy496
       have H' := Aside0.mk H
       clear H
       go_wp2_with (first | ((with_reducible refine gate_dst (N := 32) rfl ?_); (try (refine gate_guard (by rfl) ?_; dsimp only)); refine Kd.R_lit (Kd.int .i64) _ 3 ?hg (N := 32) ?hd (xs := ([(-1), 0, 20] : List Int)) (inner := [.int .i64 (-1), .int .i64 0, .int .i64 20]) (ok := fun _ => True) (okp := fun _ => True) ?hr ?hp (fun _ hk => hk) trivial (Below.refl _ _) (Nat.le_refl _) (by simp) ?_; (case hd => rfl); (case hg => rfl); (case hr => first | (go_simp; done) | (go_simp; rfl)); (case hp => exact (Reps.one (show Kd.M (Kd.int .i64) _ _ _ (-1) [.int .i64 (-1)] from rfl) (Reps.one (show Kd.M (Kd.int .i64) _ _ _ 0 [.int .i64 0] from rfl) (Reps.one (show Kd.M (Kd.int .i64) _ _ _ 20 [.int .i64 20] from rfl) (Reps.none _ _))))); intro v491 w19 ho20 hb hg_ hnew_; clear hg_ hnew_; (first | rw [← Ny490.out] at ho20 | (simp only [Int.reduceToNat] at ho20; rw [← Ny490.out] at ho20)); have n0_ := Aside0.mk (Kd.R_elder' (HO_5.out) (Kd.R_base ho20) hb); have n1_ := Aside0.mk (Kd.R_elder' (HO_6.out) (Kd.R_base ho20) hb); have n2_ := Aside0.mk (Kd.R_elder' (HO_14.out) (Kd.R_base ho20) hb); have n3_ := Aside0.mk (Kd.R_lower (Kd.R_new' (Kd.R_new' (Kd.R_new' ho20 (Kd.R_lt (HO_5.out))) (Kd.R_lt (HO_6.out))) (Kd.R_lt (HO_14.out))) (keep_size (w := w) (g := g) (row := none) (HK.out))); have n4_ := Aside0.mk (IsS51.below (HI0.out) hb); have n5_ := Aside0.mk (KeepBut.trans (HK.out) (KeepBut.of_below hb g none) (.inl rfl)); have n6_ := Aside0.mk (below_step (HB.out) hb); clear HO_5; clear HO_6; clear HO_14; clear HI0; clear HK; clear HB; have HO_5 := n0_; have HO_6 := n1_; have HO_14 := n2_; have HO492 := n3_; have HI0 := n4_; have HK := n5_; have HB := n6_; clear n0_ n1_ n2_ n3_ n4_ n5_ n6_; clear hb ho20; obtain ⟨Ao21, co21, eo21⟩ := Kd.R_slice HO492.out; subst eo21) | ((with_reducible refine gate_callee (f := 37) rfl ?_); refine goesL_ (some 33) rfl rfl Try.func37 (by kernel_rfl) rfl #[.pointer (some ⟨g, 0, none⟩), .slice Ao21 y490.length co21] rfl (by (try simp only [List.map_toArray, List.map_cons, List.map_nil]); rfl) ?_; (with_reducible refine (spec_l1Cur_among.calls g s0_0 t488 t489 _ _ y490 t493 t494 t495 w0 _ ?side1 ?side2 ?side3 ?side4 ?side5 A17.out).mono ?_); (case side1 => exact HI0.out); (case side2 => exact HB.out); (case side3 => exact (Kd.R_reads' HO492.out).2.2); (case side4 => exact (Kd.R_reads' HO492.out).2.1); (case side5 => exact far_slice (IsS51.own_ne HI0.out HO492.out (by decide))); rintro e w22 ⟨rfl, hi, hb, hk⟩; refine ⟨_, rfl, ?_⟩; have n0_ := Aside0.mk (Kd.R_mono (Kd.R_keep (IsS51.apart (show IsS51 w0 _ g s0_0 t488 t489 from HI0.out) (HO_5.out) (by decide)) hk (fun _ h => h.2)) (fun _ h => h.1)); have n1_ := Aside0.mk (Kd.R_mono (Kd.R_keep (IsS51.apart (show IsS51 w0 _ g s0_0 t488 t489 from HI0.out) (HO_6.out) (by decide)) hk (fun _ h => h.2)) (fun _ h => h.1)); have n2_ := Aside0.mk (Kd.R_mono (Kd.R_keep (IsS51.apart (show IsS51 w0 _ g s0_0 t488 t489 from HI0.out) (HO_14.out) (by decide)) hk (fun _ h => h.2)) (fun _ h => h.1)); have n3_ := Aside0.mk (Kd.R_mono (Kd.R_keep (IsS51.apart (show IsS51 w0 _ g s0_0 t488 t489 from HI0.out) (HO492.out) (by decide)) hk (fun _ h => h.2)) (fun _ h => h.1)); have n4_ := Aside0.mk (KeepBut.trans (HK.out) hk (.inl rfl)); have n5_ := Aside0.mk (hb); have n6_ := Aside0.mk (hi); clear HO_5; clear HO_6; clear HO_14; clear HO492; clear HK; clear HB; clear HI0; have HO_5 := n0_; have HO_6 := n1_; have HO_14 := n2_; have HO492 := n3_; have HK := n4_; have HB := n5_; have HI0 := n6_; clear n0_ n1_ n2_ n3_ n4_ n5_ n6_; clear hb; clear hk; clear hi) | ((with_reducible refine gate_builtin (b := .append) (xs := #[.tmp 30, .tmp 34]) rfl ?_); (try (refine gate_guard (by rfl) ?_; dsimp only)); at_builtin; refine Kd.R_append (Kd.int .i64) w.heap.size rfl (.tmp 30) (.tmp 34) 26 3 (.int .i64 0) 8 rfl Try.underlying26 info3 rfl (by decide) (by omega) u6 x6_1 t493 [.int .i64 t493] (fun k_ => some k_ ≠ (.slice Ao4 t474.length co4 : Value).ownBlock ∧ some k_ ≠ (.slice Ao4 t474.length co4 : Value).ownBlock ∧ some k_ ≠ (.slice Ao21 y490.length co21 : Value).ownBlock) (fun _ => False) rfl rfl ?aP (fun _ hk => hk.elim) ?aF ?aO (Below.refl _ _) ?aS ?aL ?_; (case aP => exact rfl); (case aF => exact (fun k_ hk => ⟨Kd.fresh' (Kd.R_lt (HO_5.out)) k_ hk, Kd.fresh' (Kd.R_lt (HO_14.out)) k_ hk, Kd.fresh' (Kd.R_lt (HO492.out)) k_ hk⟩)); (case aO => exact (by exact Kd.R_mono HO_6.out (fun _ hk => ⟨hk.1.1, ⟨hk.1.2, hk.2⟩⟩))); (case aS => exact (keep_size (w := w) (g := g) (row := none) (HK.out))); (case aL => have := LMc18.out; omega); intro v497 w23 ho hb hg hat; rw [← Ny496.out] at ho; have n0_ := Aside0.mk (Kd.R_after (ok := (fun k_ => some k_ ≠ (.slice Ao21 y490.length co21 : Value).ownBlock)) (by exact Kd.R_mono HO_5.out (fun _ hk => ⟨hk.2, hk.1⟩)) hg hat); have n1_ := Aside0.mk (Kd.R_after (ok := (fun k_ => some k_ ≠ (.slice Ao21 y490.length co21 : Value).ownBlock)) (by exact Kd.R_mono HO_14.out (fun _ hk => ⟨hk.2, hk.1⟩)) hg hat); have n2_ := Aside0.mk (IsS51.grown (HI0.out) hg (IsS51.own_ne HI0.out HO_6.out (by decide))); have n3_ := Aside0.mk (Kd.R_after (ok := (fun k_ => some k_ ≠ (.slice Ao4 t474.length co4 : Value).ownBlock ∧ some k_ ≠ (.slice Ao4 t474.length co4 : Value).ownBlock)) (by exact Kd.R_mono HO492.out (fun _ hk => ⟨⟨hk.1.1.2, hk.2⟩, hk.1.2⟩)) hg hat); have n4_ := Aside0.mk (below_weaken (HB.out) HL.out hb); have n5_ := Aside0.mk (KeepBut.trans (HK.out) (KeepBut.of_grown hg g) (Kd.R_base2 HO_6.out)); have n6_ := Aside0.mk (ho); clear HO_5; clear HO_14; clear HI0; clear HO492; clear HB; clear HK; clear HO_6; have HO_5 := n0_; have HO_14 := n1_; have HI0 := n2_; have HO492 := n3_; have HB := n4_; have HK := n5_; have HO498 := n6_; clear n0_ n1_ n2_ n3_ n4_ n5_ n6_; clear ho hb hg hat))
       go_meet
       case rel => exact ⟨_, (y496), (t494), (t495), H', ⟨by have := HK1.out; omega⟩, ⟨by exact Kd.R_mono HO_5.out (fun _ hk => hk.2)⟩, ⟨by exact Kd.R_mono HO498.out (fun _ hk => hk.1)⟩, ⟨HI0.out⟩, ⟨HK.out⟩, ⟨HB.out⟩⟩
      ·rw [if_neg c18] at H
       exact absurd H (by simp)
     ·replace c16 := Bool.eq_false_iff.mpr c16
      subst c16
      rw [if_neg (show ¬ (false = true) by decide)] at H
      have H1 := H
      clear H
      have H := H1
      clear H1
      have H' := Aside0.mk H
      clear H
      go_wp2
      go_meet
      case rel => exact ⟨_, (x6_1), (t488), (t489), H', ⟨by have := HK1.out; omega⟩, ⟨HO_5.out⟩, ⟨by exact Kd.R_mono HO_6.out (fun _ hk => hk.1)⟩, ⟨HI0.out⟩, ⟨HK.out⟩, ⟨HB.out⟩⟩
    case rest =>
     clear HC14
     try clear c1
     try clear p2
     try clear c3
     try clear p4
     try clear q4
     try clear hx4
     try clear c5
     try clear c5b0
     try clear c6
     try clear c6b0
     try clear p6
     try clear c7
     try clear c7b0
     try clear c10
     try clear c16
     try clear c18
     try clear hx479_0
     try clear p2
     try clear p479
     try clear q479
     obtain ⟨kq, x6_13, x1001_13, x1002_13, HA, HJ13, HO_5, HO_6, HI0, HK, HB⟩ := hcut
     cases kq with
     | zero => exact absurd HA.out (by simp [spec_DrawRankOfMixed_c.j1])
     | succ kj13 =>
      have H := HA.out
      clear HA
      simp only [spec_DrawRankOfMixed_c.j1] at H
      replace H := Option.bind_eq_some_iff.mp H
      obtain ⟨⟨t499, t500, t501⟩, A240, H⟩ := H
      try dsimp +instances only at H
      replace H := H
      have A24 := Aside0.mk A240
      clear A240
      by_cases c25 : t499 = true
      ·subst c25
       rw [if_pos rfl] at H
       have H1 := H
       clear H
       have H := H1
       clear H1
       by_cases c26 : (x6_13.length : Int) > 0
       ·rw [if_pos c26] at H
        have c26b0 : decide (0 < (x6_13.length : Int)) = true := decide_eq_true c26
        have c26b1 : decide (0 < x6_13.length) = true := decide_eq_true (by omega)
        clear c26
        obtain ⟨y502, hy502⟩ : ∃ y_ : List Int, y_ = (([(-1), 5, 20, 4611686018427387904] : List Int)) := ⟨_, rfl⟩
        replace H : ((spec_l1Cur_among.f s0_0 t500 t501 y502).bind fun bt505 => (if 0 < (x6_13.length : Int) then (some (t474, (x6_13.set (0 : Int).toNat bt505.1), bt505.2.1, bt505.2.2)) else (none))) = some (r1, r2, r3, r4) := by first | (rw [hy502]; with_reducible exact H) | (have H2_ := (Option.bind_some _ _).symm.trans H; rw [hy502]; with_reducible exact H2_) | (have H2_ := (Option.bind_some _ _).symm.trans H; with_reducible exact H2_) | with_reducible exact H | (rw [hy502]; exact H) | exact H
        have Ny502 := Aside0.mk hy502
        clear hy502
        replace H := Option.bind_eq_some_iff.mp H
        obtain ⟨⟨t505, t506, t507⟩, A270, H⟩ := H
        try dsimp +instances only at H
        replace H := H
        have A27 := Aside0.mk A270
        clear A270
        by_cases c28 : 0 < (x6_13.length : Int)
        ·rw [if_pos c28] at H
         have c28b0 : decide (0 < (x6_13.length : Int)) = true := decide_eq_true c28
         have c28b1 : decide (0 < x6_13.length) = true := decide_eq_true (by omega)
         clear c28
         obtain ⟨y508, hy508⟩ : ∃ y_ : List Int, y_ = (x6_13.set (0 : Int).toNat t505) := ⟨_, rfl⟩
         replace H : (some (t474, y508, t506, t507)) = some (r1, r2, r3, r4) := by first | (rw [hy508]; with_reducible exact H) | (have H2_ := (Option.bind_some _ _).symm.trans H; rw [hy508]; with_reducible exact H2_) | (have H2_ := (Option.bind_some _ _).symm.trans H; with_reducible exact H2_) | with_reducible exact H | (rw [hy508]; exact H) | exact H
         have Ny508 := Aside0.mk hy508
         clear hy508
         simp only [Option.some.injEq, Prod.mk.injEq] at H
         obtain ⟨rfl, rfl, rfl, rfl⟩ := H
         go_wp2_with (first | ((with_reducible refine gate_callee (f := 36) rfl ?_); refine goesL_ (some 37) rfl rfl Try.func36 (by kernel_rfl) rfl #[.pointer (some ⟨g, 0, none⟩), .int .i64 12] rfl (by (try simp only [List.map_toArray, List.map_cons, List.map_nil]); rfl) ?_; (with_reducible refine (spec_l1Cur_one.calls g s0_0 x1001_13 x1002_13 12 true t500 t501 w0 _ ?side1 ?side2 A24.out).mono ?_); (case side1 => exact HI0.out); (case side2 => exact HB.out); rintro e w30 ⟨rfl, hi, hb, hk⟩; refine ⟨_, rfl, ?_⟩; have n0_ := Aside0.mk (Kd.R_mono (Kd.R_keep (IsS51.apart (show IsS51 w0 _ g s0_0 x1001_13 x1002_13 from HI0.out) (HO_5.out) (by decide)) hk (fun _ h => h.2)) (fun _ h => h.1)); have n1_ := Aside0.mk (Kd.R_mono (Kd.R_keep (IsS51.apart (show IsS51 w0 _ g s0_0 x1001_13 x1002_13 from HI0.out) (HO_6.out) (by decide)) hk (fun _ h => h.2)) (fun _ h => h.1)); have n2_ := Aside0.mk (KeepBut.trans (HK.out) hk (.inl rfl)); have n3_ := Aside0.mk (hb); have n4_ := Aside0.mk (hi); clear HO_5; clear HO_6; clear HK; clear HB; clear HI0; have HO_5 := n0_; have HO_6 := n1_; have HK := n2_; have HB := n3_; have HI0 := n4_; clear n0_ n1_ n2_ n3_ n4_; clear hb; clear hk; clear hi; obtain ⟨Ao31, co31, eo31⟩ := Kd.R_slice HO_6.out; subst eo31) | ((with_reducible refine gate_dst (N := 45) rfl ?_); (try (refine gate_guard (by rfl) ?_; dsimp only)); refine Kd.R_lit (Kd.int .i64) _ 3 ?hg (N := 45) ?hd (xs := ([(-1), 5, 20, 4611686018427387904] : List Int)) (inner := [.int .i64 (-1), .int .i64 5, .int .i64 20, .int .i64 4611686018427387904]) (ok := fun _ => True) (okp := fun _ => True) ?hr ?hp (fun _ hk => hk) trivial (Below.refl _ _) (Nat.le_refl _) (by simp) ?_; (case hd => rfl); (case hg => rfl); (case hr => first | (go_simp; done) | (go_simp; rfl)); (case hp => exact (Reps.one (show Kd.M (Kd.int .i64) _ _ _ (-1) [.int .i64 (-1)] from rfl) (Reps.one (show Kd.M (Kd.int .i64) _ _ _ 5 [.int .i64 5] from rfl) (Reps.one (show Kd.M (Kd.int .i64) _ _ _ 20 [.int .i64 20] from rfl) (Reps.one (show Kd.M (Kd.int .i64) _ _ _ 4611686018427387904 [.int .i64 4611686018427387904] from rfl) (Reps.none _ _)))))); intro v503 w32 ho33 hb hg_ hnew_; clear hg_ hnew_; (first | rw [← Ny502.out] at ho33 | (simp only [Int.reduceToNat] at ho33; rw [← Ny502.out] at ho33)); have n0_ := Aside0.mk (Kd.R_elder' (HO_5.out) (Kd.R_base ho33) hb); have n1_ := Aside0.mk (Kd.R_elder' (HO_6.out) (Kd.R_base ho33) hb); have n2_ := Aside0.mk (Kd.R_lower (Kd.R_new' (Kd.R_new' ho33 (Kd.R_lt (HO_5.out))) (Kd.R_lt (HO_6.out))) (keep_size (w := w) (g := g) (row := none) (HK.out))); have n3_ := Aside0.mk (IsS51.below (HI0.out) hb); have n4_ := Aside0.mk (KeepBut.trans (HK.out) (KeepBut.of_below hb g none) (.inl rfl)); have n5_ := Aside0.mk (below_step (HB.out) hb); clear HO_5; clear HO_6; clear HI0; clear HK; clear HB; have HO_5 := n0_; have HO_6 := n1_; have HO504 := n2_; have HI0 := n3_; have HK := n4_; have HB := n5_; clear n0_ n1_ n2_ n3_ n4_ n5_; clear hb ho33; obtain ⟨Ao34, co34, eo34⟩ := Kd.R_slice HO504.out; subst eo34) | ((with_reducible refine gate_callee (f := 37) rfl ?_); refine goesL_ (some 46) rfl rfl Try.func37 (by kernel_rfl) rfl #[.pointer (some ⟨g, 0, none⟩), .slice Ao34 y502.length co34] rfl (by (try simp only [List.map_toArray, List.map_cons, List.map_nil]); rfl) ?_; (with_reducible refine (spec_l1Cur_among.calls g s0_0 t500 t501 _ _ y502 t505 t506 t507 w0 _ ?side1 ?side2 ?side3 ?side4 ?side5 A27.out).mono ?_); (case side1 => exact HI0.out); (case side2 => exact HB.out); (case side3 => exact (Kd.R_reads' HO504.out).2.2); (case side4 => exact (Kd.R_reads' HO504.out).2.1); (case side5 => exact far_slice (IsS51.own_ne HI0.out HO504.out (by decide))); rintro e w35 ⟨rfl, hi, hb, hk⟩; refine ⟨_, rfl, ?_⟩; have n0_ := Aside0.mk (Kd.R_mono (Kd.R_keep (IsS51.apart (show IsS51 w0 _ g s0_0 t500 t501 from HI0.out) (HO_5.out) (by decide)) hk (fun _ h => h.2)) (fun _ h => h.1)); have n1_ := Aside0.mk (Kd.R_mono (Kd.R_keep (IsS51.apart (show IsS51 w0 _ g s0_0 t500 t501 from HI0.out) (HO_6.out) (by decide)) hk (fun _ h => h.2)) (fun _ h => h.1)); have n2_ := Aside0.mk (Kd.R_mono (Kd.R_keep (IsS51.apart (show IsS51 w0 _ g s0_0 t500 t501 from HI0.out) (HO504.out) (by decide)) hk (fun _ h => h.2)) (fun _ h => h.1)); have n3_ := Aside0.mk (KeepBut.trans (HK.out) hk (.inl rfl)); have n4_ := Aside0.mk (hb); have n5_ := Aside0.mk (hi); clear HO_5; clear HO_6; clear HO504; clear HK; clear HB; clear HI0; have HO_5 := n0_; have HO_6 := n1_; have HO504 := n2_; have HK := n3_; have HB := n4_; have HI0 := n5_; clear n0_ n1_ n2_ n3_ n4_ n5_; clear hb; clear hk; clear hi; have p29 : 0 ≤ (0 : Int) := (by omega); have q29 : (0 : Int) < ((x6_13.length : Int) : Int) := of_decide_eq_true (by with_reducible assumption); have qi29 : (0 < x6_13.length) = True := eq_true (by omega); obtain ⟨go29, co29, eo29, gb29, gl29, cl29, HG29⟩ := Kd.R_form HO_6.out (by omega); (first | cases eo29 | (injection eo29 with ea_ en_ ec_; (first | subst ea_ | (injection ea_ with ea_; subst ea_)); subst ec_; clear en_)); have GB29 := Aside0.mk gb29; have GG29 := Aside0.mk HG29; clear gb29 gl29 HG29; obtain ⟨hx29_0, hf29_0⟩ := Kd.R_celln 0 HO_6.out (0 : Int) p29 q29; (try rw [show ((0 : Int)).toNat = 0 from rfl] at hx29_0); (try simp only [Nat.reduceMul, Nat.zero_mul, Nat.zero_add, Nat.reduceAdd] at hx29_0); (try rw [show ((0 : Int)).toNat = 0 from rfl] at hf29_0); (try simp only [Nat.reduceMul, Nat.zero_mul, Nat.zero_add, Nat.reduceAdd] at hf29_0); replace p29 := eq_true p29; replace q29 := eq_true q29; obtain ⟨hy36_, hz36_⟩ := Kd.R_celln 0 HO_6.out (0 : Int) (by omega) (of_decide_eq_true (by with_reducible assumption)); (try simp only [Int.reduceToNat, Int.toNat_zero, Int.toNat_ofNat, Nat.reduceMul, Nat.zero_mul, Nat.zero_add] at hy36_ hz36_); (try rw [show ((0 : Int)).toNat = 0 from rfl] at hy36_); (try rw [show ((0 : Int)).toNat = 0 from rfl] at hz36_); have HP36 := Kd.R_putg HO_6.out (0 : Int) t505) | ((with_reducible refine gate_store (t := 3) (p := 47) rfl ?_); refine store_event (t := 3) (p := 47) (v := ?vo_w37) (w1 := (w35.setCell ⟨go29, (0 : Int).toNat, none⟩ (.int .i64 t505))) ?hg ?ho ?hn ?hr ?_; (case ho => rfl); (case hg => rfl); (case hn => rfl); (case hr => first | (go_simp; done) | (go_simp; rfl)); intro w37 hw; have hg : w35.grownBy w37 (some go29) := (by rw [hw]; exact HP36.2); have hp_ : Kd.R (Kd.int .i64) 3 w37 w.heap.size (fun k_ => some k_ ≠ (.slice Ao4 t474.length co4 : Value).ownBlock ∧ some k_ ≠ (.slice Ao34 y502.length co34 : Value).ownBlock) (.slice (some ⟨go29, 0, none⟩) x6_13.length co31) y508 := (by rw [hw, Ny508.out]; exact HP36.1); clear HP36; have n0_ := Aside0.mk (Kd.R_after (v := (.slice (some ⟨go29, 0, none⟩) x6_13.length co31)) (v1 := (.slice (some ⟨go29, 0, none⟩) x6_13.length co31)) (ok := (fun k_ => some k_ ≠ (.slice Ao34 y502.length co34 : Value).ownBlock)) (by exact Kd.R_mono HO_5.out (fun _ hk => ⟨hk.2, hk.1⟩)) hg (.inl rfl)); have n1_ := Aside0.mk (hp_); have n2_ := Aside0.mk (IsS51.grown (HI0.out) hg (IsS51.own_ne HI0.out HO_6.out (by decide))); have n3_ := Aside0.mk (Kd.R_after (v := (.slice (some ⟨go29, 0, none⟩) x6_13.length co31)) (v1 := (.slice (some ⟨go29, 0, none⟩) x6_13.length co31)) (ok := (fun k_ => some k_ ≠ (.slice Ao4 t474.length co4 : Value).ownBlock)) (by exact Kd.R_mono HO504.out (fun _ hk => ⟨hk.1.2, hk.2⟩)) hg (.inl rfl)); have n4_ := Aside0.mk ((by rw [hw]; exact below_set (HB.out) (Nat.le_trans HL.out GB29.out) : Below w0.heap.size w0 w37)); have n5_ := Aside0.mk (KeepBut.trans (HK.out) (KeepBut.of_grown hg g) (Kd.R_base2 HO_6.out)); clear HO_5; clear HO_6; clear HI0; clear HO504; clear HB; clear HK; have HO_5 := n0_; have HO_6 := n1_; have HI0 := n2_; have HO504 := n3_; have HB := n4_; have HK := n5_; clear n0_ n1_ n2_ n3_ n4_ n5_; clear hg hw hp_))
         go_ret2
         exact ⟨_, _, by rfl, Kd.R_lower (by exact Kd.R_mono HO_5.out (fun _ hk => hk.2)) HW0.out, Kd.R_lower (by exact Kd.R_mono HO_6.out (fun _ hk => hk.1)) HW0.out, HB.out⟩
        ·rw [if_neg c28] at H
         exact absurd H (by simp)
       ·rw [if_neg c26] at H
        have c26b0 : decide (0 < (x6_13.length : Int)) = false := decide_eq_false c26
        have c26b1 : decide (0 < x6_13.length) = false := decide_eq_false (by omega)
        clear c26
        simp only [Option.some.injEq, Prod.mk.injEq] at H
        obtain ⟨rfl, rfl, rfl, rfl⟩ := H
        go_wp2_with (first | ((with_reducible refine gate_callee (f := 36) rfl ?_); refine goesL_ (some 37) rfl rfl Try.func36 (by kernel_rfl) rfl #[.pointer (some ⟨g, 0, none⟩), .int .i64 12] rfl (by (try simp only [List.map_toArray, List.map_cons, List.map_nil]); rfl) ?_; (with_reducible refine (spec_l1Cur_one.calls g s0_0 x1001_13 x1002_13 12 true t500 t501 w0 _ ?side1 ?side2 A24.out).mono ?_); (case side1 => exact HI0.out); (case side2 => exact HB.out); rintro e w38 ⟨rfl, hi, hb, hk⟩; refine ⟨_, rfl, ?_⟩; have n0_ := Aside0.mk (Kd.R_mono (Kd.R_keep (IsS51.apart (show IsS51 w0 _ g s0_0 x1001_13 x1002_13 from HI0.out) (HO_5.out) (by decide)) hk (fun _ h => h.2)) (fun _ h => h.1)); have n1_ := Aside0.mk (Kd.R_mono (Kd.R_keep (IsS51.apart (show IsS51 w0 _ g s0_0 x1001_13 x1002_13 from HI0.out) (HO_6.out) (by decide)) hk (fun _ h => h.2)) (fun _ h => h.1)); have n2_ := Aside0.mk (KeepBut.trans (HK.out) hk (.inl rfl)); have n3_ := Aside0.mk (hb); have n4_ := Aside0.mk (hi); clear HO_5; clear HO_6; clear HK; clear HB; clear HI0; have HO_5 := n0_; have HO_6 := n1_; have HK := n2_; have HB := n3_; have HI0 := n4_; clear n0_ n1_ n2_ n3_ n4_; clear hb; clear hk; clear hi; obtain ⟨Ao39, co39, eo39⟩ := Kd.R_slice HO_6.out; subst eo39))
        go_ret2
        exact ⟨_, _, by rfl, Kd.R_lower (HO_5.out) HW0.out, Kd.R_lower (HO_6.out) HW0.out, HB.out⟩
      ·replace c25 := Bool.eq_false_iff.mpr c25
       subst c25
       rw [if_neg (show ¬ (false = true) by decide)] at H
       have H1 := H
       clear H
       have H := H1
       clear H1
       simp only [Option.some.injEq, Prod.mk.injEq] at H
       obtain ⟨rfl, rfl, rfl, rfl⟩ := H
       go_wp2_with (first | ((with_reducible refine gate_callee (f := 36) rfl ?_); refine goesL_ (some 37) rfl rfl Try.func36 (by kernel_rfl) rfl #[.pointer (some ⟨g, 0, none⟩), .int .i64 12] rfl (by (try simp only [List.map_toArray, List.map_cons, List.map_nil]); rfl) ?_; (with_reducible refine (spec_l1Cur_one.calls g s0_0 x1001_13 x1002_13 12 false t500 t501 w0 _ ?side1 ?side2 A24.out).mono ?_); (case side1 => exact HI0.out); (case side2 => exact HB.out); rintro e w40 ⟨rfl, hi, hb, hk⟩; refine ⟨_, rfl, ?_⟩; have n0_ := Aside0.mk (Kd.R_mono (Kd.R_keep (IsS51.apart (show IsS51 w0 _ g s0_0 x1001_13 x1002_13 from HI0.out) (HO_5.out) (by decide)) hk (fun _ h => h.2)) (fun _ h => h.1)); have n1_ := Aside0.mk (Kd.R_mono (Kd.R_keep (IsS51.apart (show IsS51 w0 _ g s0_0 x1001_13 x1002_13 from HI0.out) (HO_6.out) (by decide)) hk (fun _ h => h.2)) (fun _ h => h.1)); have n2_ := Aside0.mk (KeepBut.trans (HK.out) hk (.inl rfl)); have n3_ := Aside0.mk (hb); have n4_ := Aside0.mk (hi); clear HO_5; clear HO_6; clear HK; clear HB; clear HI0; have HO_5 := n0_; have HO_6 := n1_; have HK := n2_; have HB := n3_; have HI0 := n4_; clear n0_ n1_ n2_ n3_ n4_; clear hb; clear hk; clear hi))
       go_ret2
       exact ⟨_, _, by rfl, Kd.R_lower (HO_5.out) HW0.out, Kd.R_lower (HO_6.out) HW0.out, HB.out⟩
def spec_DrawRankOfMixed.f (k : Nat) (l0 : List Int) : Option (List Int × List Int) := (spec_DrawRankOfMixed_c.f k l0 0 0).map fun r_ => (r_.1, r_.2.1)
theorem spec_DrawRankOfMixed.calls (k : Nat) (A0 : Option Addr) (c0 : Nat) (l0 : List Int) (r1 : List Int) (r2 : List Int) (w : World) (hr0 : Kd.C (Kd.int .u8) w A0 l0.length l0) (hc0 : l0.length ≤ c0) (h : spec_DrawRankOfMixed.f k l0 = some (r1, r2)) :
  Calls Try.prog 32 #[.slice A0 l0.length c0] w fun e w' => ∃ v0_ v1_ : Value, e = .returned (.tuple #[v0_, v1_]) ∧ Kd.R (Kd.int .i64) 3 w' w.heap.size (fun k_ => some k_ ≠ (v1_ : Value).ownBlock) v0_ r1 ∧ Kd.R (Kd.int .i64) 3 w' w.heap.size (fun k_ => some k_ ≠ (v0_ : Value).ownBlock) v1_ r2 ∧ Below w.heap.size w w' := by
 unfold spec_DrawRankOfMixed.f at h
 obtain ⟨⟨y0, y1, y2, y3⟩, h1, h2⟩ := Option.map_eq_some_iff.mp h
 simp only [Prod.mk.injEq] at h2
 obtain ⟨rfl, rfl⟩ := h2
 exact spec_DrawRankOfMixed_c.at k A0 c0 l0 0 0 _ _ _ _ w rfl rfl hr0 hc0 h1
mutual
def impl_RankOfMixed.j0 : Nat → List Int → List Int → Bool → Option (Int × Bool)
 | 0, _, _, _ => none
 | k + 1, x0, x1, x18 => if x18 = true then (some (0, false)) else (impl_RankOfMixed.l0 k x0 x1 0 1 (wrap64 ((x1.length : Int) - 1)))
def impl_RankOfMixed.l0 : Nat → List Int → List Int → Int → Int → Int → Option (Int × Bool)
 | 0, _, _, _, _, _ => none
 | k + 1, x0, x1, x6, x7, x8 => if x8 ≥ 0 then (if 0 ≤ x8 then (if x8 < (x1.length : Int) then (if x8 < (x0.length : Int) then ((impl_in.f (rd x1 x8) 0 (wrap64 ((rd x0 x8) - 1))).bind fun t512 => (if t512 = true then (if (Int.tmod (rd x1 x8) 2) = 1 then (impl_RankOfMixed.l0 k x0 x1 (wrap64 ((wrap64 ((wrap64 (x7 - 1)) - x6)) + (wrap64 ((rd x1 x8) * x7)))) (wrap64 (x7 * (rd x0 x8))) (wrap64 (x8 - 1))) else (impl_RankOfMixed.l0 k x0 x1 (wrap64 (x6 + (wrap64 ((rd x1 x8) * x7)))) (wrap64 (x7 * (rd x0 x8))) (wrap64 (x8 - 1)))) else (some (0, false)))) else (none)) else (none)) else (none)) else (some (x6, true))
end
def impl_RankOfMixed.f (k : Nat) (l0 : List Int) (l1 : List Int) : Option (Int × Bool) := (impl_areLimits.f l0).bind fun t509 => (if t509 = true then (impl_RankOfMixed.j0 k l0 l1 ((l1.length : Int) != (l0.length : Int))) else (impl_RankOfMixed.j0 k l0 l1 true))
theorem impl_RankOfMixed.calls (k : Nat) (A0 : Option Addr) (c0 : Nat) (l0 : List Int) (A1 : Option Addr) (c1 : Nat) (l1 : List Int) (r1 : Int) (r2 : Bool) (w : World) (hr0 : Kd.C (Kd.int .i64) w A0 l0.length l0) (hc0 : l0.length ≤ c0) (hr1 : Kd.C (Kd.int .i64) w A1 l1.length l1) (hc1 : l1.length ≤ c1) (h : impl_RankOfMixed.f k l0 l1 = some (r1, r2)) :
  Calls Try.prog 33 #[.slice A0 l0.length c0, .slice A1 l1.length c1] w fun e w' => e = .returned (.tuple #[.int .i64 r1, .bool r2]) ∧ Drawn0 w w' := by
 have HR0 := Aside0.mk hr0
 have HC0 := Aside0.mk hc0
 clear hr0 hc0
 have HR1 := Aside0.mk hr1
 have HC1 := Aside0.mk hc1
 clear hr1 hc1
 unfold impl_RankOfMixed.f at h
 have H := h
 clear h
 have HC3 := Aside0.mk H
 clear H
 go_enter Try.func33, Try.ntmps33
 go_upto_region 1 with (fail)
 repeat (go_quiet (fail); go_upto_region 1 with (fail))
 go_cut [18] (fun v18 wc => ∃ (kq : Nat) (x18_2 : Bool), v18 = .bool x18_2 ∧ Aside0 (impl_RankOfMixed.j0 kq l0 l1 x18_2 = some (r1, r2)) ∧ Aside0 (kq ≤ k) ∧ Drawn0 w wc)
 case first =>
  have H := HC3.out
  clear HC3
  replace H := Option.bind_eq_some_iff.mp H
  obtain ⟨t509, A40, H⟩ := H
  try dsimp +instances only at H
  replace H := H
  have A4 := Aside0.mk A40
  clear A40
  by_cases c5 : t509 = true
  ·subst c5
   rw [if_pos rfl] at H
   have H1 := H
   clear H
   have H := H1
   clear H1
   have H' := Aside0.mk H
   clear H
   go_wp2_with (first | (go_at_call 69; (with_reducible refine (impl_areLimits.calls _ _ l0 true _ ?side1 ?side2 A4.out).mono ?_); (case side1 => exact HR0.out); (case side2 => exact HC0.out); rintro e w' ⟨rfl, ⟨nd, rfl⟩⟩; (try first | exact ⟨rfl, _, World.drewN_drewN _ _ _⟩ | exact ⟨rfl, _, Eq.trans (World.drewN_drewN _ _ _) (congrArg (World.drewN _) (Nat.add_assoc _ _ _))⟩)))
   repeat (go_quiet (first | (go_at_call 69; (with_reducible refine (impl_areLimits.calls _ _ l0 true _ ?side1 ?side2 A4.out).mono ?_); (case side1 => repeat (first | exact HR0.out | (with_reducible refine Kd.C_alloc ?_ _) | (with_reducible refine Kd.C_drewN ?_ _) | (with_reducible refine Kd.C_drew ?_))); (case side2 => exact HC0.out); rintro e w' ⟨rfl, ⟨nd, rfl⟩⟩; (try first | exact ⟨rfl, _, World.drewN_drewN _ _ _⟩ | exact ⟨rfl, _, Eq.trans (World.drewN_drewN _ _ _) (congrArg (World.drewN _) (Nat.add_assoc _ _ _))⟩))); try go_wp2_with (fail))
   go_meet
   case rel => exact ⟨_, (((l1.length : Int) != (l0.length : Int))), (by rfl), H', ⟨by omega⟩, by (apply Drawn0.step; exact Drawn0.refl _)⟩
  ·replace c5 := Bool.eq_false_iff.mpr c5
   subst c5
   rw [if_neg (show ¬ (false = true) by decide)] at H
   have H1 := H
   clear H
   have H := H1
   clear H1
   have H' := Aside0.mk H
   clear H
   go_wp2_with (first | (go_at_call 69; (with_reducible refine (impl_areLimits.calls _ _ l0 false _ ?side1 ?side2 A4.out).mono ?_); (case side1 => exact HR0.out); (case side2 => exact HC0.out); rintro e w' ⟨rfl, ⟨nd, rfl⟩⟩; (try first | exact ⟨rfl, _, World.drewN_drewN _ _ _⟩ | exact ⟨rfl, _, Eq.trans (World.drewN_drewN _ _ _) (congrArg (World.drewN _) (Nat.add_assoc _ _ _))⟩)))
   repeat (go_quiet (first | (go_at_call 69; (with_reducible refine (impl_areLimits.calls _ _ l0 false _ ?side1 ?side2 A4.out).mono ?_); (case side1 => repeat (first | exact HR0.out | (with_reducible refine Kd.C_alloc ?_ _) | (with_reducible refine Kd.C_drewN ?_ _) | (with_reducible refine Kd.C_drew ?_))); (case side2 => exact HC0.out); rintro e w' ⟨rfl, ⟨nd, rfl⟩⟩; (try first | exact ⟨rfl, _, World.drewN_drewN _ _ _⟩ | exact ⟨rfl, _, Eq.trans (World.drewN_drewN _ _ _) (congrArg (World.drewN _) (Nat.add_assoc _ _ _))⟩))); try go_wp2_with (fail))
   go_meet
   case rel => exact ⟨_, (true), (by rfl), H', ⟨by omega⟩, by (apply Drawn0.step; exact Drawn0.refl _)⟩
 case rest =>
  clear HC3
  try clear c1
  try clear p2
  try clear c3
  try clear c5
  obtain ⟨kq, x18_2, rfl, HA, HJ2, ⟨mc2, rfl⟩⟩ := hcut
  cases kq with
  | zero => exact absurd HA.out (by simp [impl_RankOfMixed.j0])
  | succ kj2 =>
   have H := HA.out
   clear HA
   simp only [impl_RankOfMixed.j0] at H
   by_cases c6 : x18_2 = true
   ·subst c6
    rw [if_pos rfl] at H
    have H1 := H
    clear H
    have H := H1
    clear H1
    simp only [Option.some.injEq, Prod.mk.injEq] at H
    obtain ⟨rfl, rfl⟩ := H
    go_wp2
    repeat (go_quiet (fail); try go_wp2)
    go_ret2
    exact ⟨by rfl, by (apply Drawn0.step; exact Drawn0.refl _)⟩
   ·replace c6 := Bool.eq_false_iff.mpr c6
    subst c6
    rw [if_neg (show ¬ (false = true) by decide)] at H
    have H1 := H
    clear H
    have H := H1
    clear H1
    have H' := Aside0.mk H
    clear H
    go_wp2
    repeat (go_quiet (fail); try go_wp2)
    go_loopg [6, 7, 8] kj2 (fun kq v6 v7 v8 w' => ∃ (x6_2 : Int) (x7_2 : Int) (x8_2 : Int), v6 = .int .i64 x6_2 ∧ v7 = .int .i64 x7_2 ∧ v8 = .int .i64 x8_2 ∧ Aside0 (impl_RankOfMixed.l0 kq l0 l1 x6_2 x7_2 x8_2 = some (r1, r2)) ∧ Aside0 (kq ≤ kj2) ∧ Drawn0 w w')
    case atStart => exact ⟨(0), (1), (wrap64 ((l1.length : Int) - 1)), (by rfl), (by rfl), (by rfl), H', ⟨Nat.le_refl _⟩, by (apply Drawn0.step; exact Drawn0.refl _)⟩
    case round =>
     clear H'
     try clear c1
     try clear c2
     try clear p2
     try clear c3
     try clear c5
     try clear c6
     try clear p6
     try clear p2
     obtain ⟨x6_2, x7_2, x8_2, rfl, rfl, rfl, HA, HK2, ⟨m2, rfl⟩⟩ := hrel
     cases gk with
     | zero => exact absurd HA.out (by simp [impl_RankOfMixed.l0])
     | succ k2 =>
      have H := HA.out
      clear HA
      simp only [impl_RankOfMixed.l0] at H
      by_cases c7 : x8_2 ≥ 0
      ·rw [if_pos c7] at H
       have c7b0 : decide (0 ≤ x8_2) = true := decide_eq_true c7
       clear c7
       by_cases c8 : 0 ≤ x8_2
       ·rw [if_pos c8] at H
        have c8b0 : decide (0 ≤ x8_2) = true := decide_eq_true c8
        clear c8
        by_cases c9 : x8_2 < (l1.length : Int)
        ·rw [if_pos c9] at H
         have c9b0 : decide (x8_2 < (l1.length : Int)) = true := decide_eq_true c9
         clear c9
         by_cases c10 : x8_2 < (l0.length : Int)
         ·rw [if_pos c10] at H
          have c10b0 : decide (x8_2 < (l0.length : Int)) = true := decide_eq_true c10
          clear c10
          replace H := Option.bind_eq_some_iff.mp H
          obtain ⟨t512, A110, H⟩ := H
          try dsimp +instances only at H
          replace H := H
          have A11 := Aside0.mk A110
          clear A110
          by_cases c12 : t512 = true
          ·subst c12
           rw [if_pos rfl] at H
           have H1 := H
           clear H
           have H := H1
           clear H1
           by_cases c13 : (Int.tmod (rd l1 x8_2) 2) = 1
           ·rw [if_pos c13] at H
            have c13b0 : ((Int.tmod (rd l1 x8_2) 2) == 1) = true := beq_iff_eq.mpr c13
            have c13b1 : ((Int.tmod (rd l1 x8_2) 2) != 1) = false := bne_eq_false_iff_eq.mpr c13
            clear c13
            have H' := Aside0.mk H
            clear H
            have p510 : 0 ≤ (x8_2 : Int) := of_decide_eq_true (by with_reducible assumption)
            have q510 : x8_2 < (l1.length : Int) := of_decide_eq_true (by with_reducible assumption)
            obtain ⟨ad510, e510, hx510_0⟩ := Kd.at_int HR1.out x8_2 p510 q510
            cases e510
            replace p510 := eq_true p510
            replace q510 := eq_true q510
            have p511 : 0 ≤ (x8_2 : Int) := of_decide_eq_true (by with_reducible assumption)
            have q511 : x8_2 < (l0.length : Int) := of_decide_eq_true (by with_reducible assumption)
            obtain ⟨ad511, e511, hx511_0⟩ := Kd.at_int HR0.out x8_2 p511 q511
            cases e511
            replace p511 := eq_true p511
            replace q511 := eq_true q511
            go_wp2_with (fail)
            repeat (go_quiet (first | (go_at_call 40; (with_reducible refine (impl_in.calls (rd l1 x8_2) 0 (wrap64 ((rd l0 x8_2) - 1)) true _ A11.out).mono ?_); rintro e w' ⟨rfl, ⟨nd, rfl⟩⟩; (first | exact ⟨rfl, _, World.drewN_drewN _ _ _⟩ | exact ⟨rfl, _, Eq.trans (World.drewN_drewN _ _ _) (congrArg (World.drewN _) (Nat.add_assoc _ _ _))⟩ | (have p513 : 0 ≤ (x8_2 : Int) := of_decide_eq_true (by first | (with_reducible assumption) | assumption); have q513 : x8_2 < (l1.length : Int) := of_decide_eq_true (by first | (with_reducible assumption) | assumption); obtain ⟨ad513, e513, hx513_0⟩ := Kd.at_int HR1.out x8_2 p513 q513; obtain rfl : ad510 = ad513 := (by injection e513); replace p513 := eq_true p513; replace q513 := eq_true q513; have p514 : 0 ≤ (x8_2 : Int) := of_decide_eq_true (by first | (with_reducible assumption) | assumption); have q514 : x8_2 < (l1.length : Int) := of_decide_eq_true (by first | (with_reducible assumption) | assumption); obtain ⟨ad514, e514, hx514_0⟩ := Kd.at_int HR1.out x8_2 p514 q514; obtain rfl : ad510 = ad514 := (by injection e514); replace p514 := eq_true p514; replace q514 := eq_true q514; have p515 : 0 ≤ (x8_2 : Int) := of_decide_eq_true (by first | (with_reducible assumption) | assumption); have q515 : x8_2 < (l0.length : Int) := of_decide_eq_true (by first | (with_reducible assumption) | assumption); obtain ⟨ad515, e515, hx515_0⟩ := Kd.at_int HR0.out x8_2 p515 q515; obtain rfl : ad511 = ad515 := (by injection e515); replace p515 := eq_true p515; replace q515 := eq_true q515)))); try go_wp2_with (fail))
            go_roundg k2
            case measure => have := HJ2.out; have := HK2.out; omega
            case rel => exact ⟨(wrap64 ((wrap64 ((wrap64 (x7_2 - 1)) - x6_2)) + (wrap64 ((rd l1 x8_2) * x7_2)))), (wrap64 (x7_2 * (rd l0 x8_2))), (wrap64 (x8_2 - 1)), (by rfl), (by rfl), (by rfl), H', ⟨by have := HJ2.out; have := HK2.out; omega⟩, by (apply Drawn0.step; exact Drawn0.refl _)⟩
           ·rw [if_neg c13] at H
            have c13b0 : ((Int.tmod (rd l1 x8_2) 2) == 1) = false := beq_eq_false_iff_ne.mpr c13
            have c13b1 : ((Int.tmod (rd l1 x8_2) 2) != 1) = true := bne_iff_ne.mpr c13
            have H' := Aside0.mk H
            clear H
            have p510 : 0 ≤ (x8_2 : Int) := of_decide_eq_true (by with_reducible assumption)
            have q510 : x8_2 < (l1.length : Int) := of_decide_eq_true (by with_reducible assumption)
            obtain ⟨ad510, e510, hx510_0⟩ := Kd.at_int HR1.out x8_2 p510 q510
            cases e510
            replace p510 := eq_true p510
            replace q510 := eq_true q510
            have p511 : 0 ≤ (x8_2 : Int) := of_decide_eq_true (by with_reducible assumption)
            have q511 : x8_2 < (l0.length : Int) := of_decide_eq_true (by with_reducible assumption)
            obtain ⟨ad511, e511, hx511_0⟩ := Kd.at_int HR0.out x8_2 p511 q511
            cases e511
            replace p511 := eq_true p511
            replace q511 := eq_true q511
            go_wp2_with (fail)
            repeat (go_quiet (first | (go_at_call 40; (with_reducible refine (impl_in.calls (rd l1 x8_2) 0 (wrap64 ((rd l0 x8_2) - 1)) true _ A11.out).mono ?_); rintro e w' ⟨rfl, ⟨nd, rfl⟩⟩; (first | exact ⟨rfl, _, World.drewN_drewN _ _ _⟩ | exact ⟨rfl, _, Eq.trans (World.drewN_drewN _ _ _) (congrArg (World.drewN _) (Nat.add_assoc _ _ _))⟩ | (have p513 : 0 ≤ (x8_2 : Int) := of_decide_eq_true (by first | (with_reducible assumption) | assumption); have q513 : x8_2 < (l1.length : Int) := of_decide_eq_true (by first | (with_reducible assumption) | assumption); obtain ⟨ad513, e513, hx513_0⟩ := Kd.at_int HR1.out x8_2 p513 q513; obtain rfl : ad510 = ad513 := (by injection e513); replace p513 := eq_true p513; replace q513 := eq_true q513; have p516 : 0 ≤ (x8_2 : Int) := of_decide_eq_true (by first | (with_reducible assumption) | assumption); have q516 : x8_2 < (l1.length : Int) := of_decide_eq_true (by first | (with_reducible assumption) | assumption); obtain ⟨ad516, e516, hx516_0⟩ := Kd.at_int HR1.out x8_2 p516 q516; obtain rfl : ad510 = ad516 := (by injection e516); replace p516 := eq_true p516; replace q516 := eq_true q516; have p517 : 0 ≤ (x8_2 : Int) := of_decide_eq_true (by first | (with_reducible assumption) | assumption); have q517 : x8_2 < (l0.length : Int) := of_decide_eq_true (by first | (with_reducible assumption) | assumption); obtain ⟨ad517, e517, hx517_0⟩ := Kd.at_int HR0.out x8_2 p517 q517; obtain rfl : ad511 = ad517 := (by injection e517); replace p517 := eq_true p517; replace q517 := eq_true q517)))); try go_wp2_with (fail))
            go_roundg k2
            case measure => have := HJ2.out; have := HK2.out; omega
            case rel => exact ⟨(wrap64 (x6_2 + (wrap64 ((rd l1 x8_2) * x7_2)))), (wrap64 (x7_2 * (rd l0 x8_2))), (wrap64 (x8_2 - 1)), (by rfl), (by rfl), (by rfl), H', ⟨by have := HJ2.out; have := HK2.out; omega⟩, by (apply Drawn0.step; exact Drawn0.refl _)⟩
          ·replace c12 := Bool.eq_false_iff.mpr c12
           subst c12
           rw [if_neg (show ¬ (false = true) by decide)] at H
           have H1 := H
           clear H
           have H := H1
           clear H1
           simp only [Option.some.injEq, Prod.mk.injEq] at H
           obtain ⟨rfl, rfl⟩ := H
           have p510 : 0 ≤ (x8_2 : Int) := of_decide_eq_true (by with_reducible assumption)
           have q510 : x8_2 < (l1.length : Int) := of_decide_eq_true (by with_reducible assumption)
           obtain ⟨ad510, e510, hx510_0⟩ := Kd.at_int HR1.out x8_2 p510 q510
           cases e510
           replace p510 := eq_true p510
           replace q510 := eq_true q510
           have p511 : 0 ≤ (x8_2 : Int) := of_decide_eq_true (by with_reducible assumption)
           have q511 : x8_2 < (l0.length : Int) := of_decide_eq_true (by with_reducible assumption)
           obtain ⟨ad511, e511, hx511_0⟩ := Kd.at_int HR0.out x8_2 p511 q511
           cases e511
           replace p511 := eq_true p511
           replace q511 := eq_true q511
           go_wp2_with (fail)
           repeat (go_quiet (first | (go_at_call 40; (with_reducible refine (impl_in.calls (rd l1 x8_2) 0 (wrap64 ((rd l0 x8_2) - 1)) false _ A11.out).mono ?_); rintro e w' ⟨rfl, ⟨nd, rfl⟩⟩; (try first | exact ⟨rfl, _, World.drewN_drewN _ _ _⟩ | exact ⟨rfl, _, Eq.trans (World.drewN_drewN _ _ _) (congrArg (World.drewN _) (Nat.add_assoc _ _ _))⟩))); try go_wp2_with (fail))
           go_ret2
           exact ⟨by rfl, by (apply Drawn0.step; apply Drawn0.step; exact Drawn0.refl _)⟩
         ·rw [if_neg c10] at H
          exact absurd H (by simp)
        ·rw [if_neg c9] at H
         exact absurd H (by simp)
       ·rw [if_neg c8] at H
        exact absurd H (by simp)
      ·rw [if_neg c7] at H
       have c7b0 : decide (0 ≤ x8_2) = false := decide_eq_false c7
       clear c7
       simp only [Option.some.injEq, Prod.mk.injEq] at H
       obtain ⟨rfl, rfl⟩ := H
       go_wp2
       repeat (go_quiet (fail); try go_wp2)
       go_ret2
       exact ⟨by rfl, by (apply Drawn0.step; exact Drawn0.refl _)⟩
end Go.Proofs.Ytcgilnmljflebaa.A
