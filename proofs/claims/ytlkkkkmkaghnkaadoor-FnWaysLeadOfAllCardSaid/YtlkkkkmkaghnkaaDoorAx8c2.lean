-- written by a program of this session's over the kit's print (xp.py)
import Derived.Test.YtlkkkkmkaghnkaaDoorAx0
import Derived.Test.YtlkkkkmkaghnkaaDoorAx1
import Derived.Test.YtlkkkkmkaghnkaaDoorAx2
import Derived.Test.YtlkkkkmkaghnkaaDoorAx3
import Derived.Test.YtlkkkkmkaghnkaaDoorAx4
import Derived.Test.YtlkkkkmkaghnkaaDoorAx5
import Derived.Test.YtlkkkkmkaghnkaaDoorAx6
import Derived.Test.YtlkkkkmkaghnkaaDoorAx7
import Derived.Test.YtlkkkkmkaghnkaaDoorAx8
import Derived.Test.YtlkkkkmkaghnkaaDoorAx8c1
namespace Go.Proofs.YtlkkkkmkaghnkaaDoor.A
open Go.RowKit Go.Proofs.YtlkkkkmkaghnkaaDoorW.PrintWords Go.Proofs.YtlkkkkmkaghnkaaDoorW.PrintLast Go.Proofs.YtlkkkkmkaghnkaaDoorW.PrintMore
attribute [local go_sem] max2_int min2_int max_two min_two max_three min_three max_four min_four   -- for this text's walks alone
set_option linter.unusedVariables false
set_option linter.unusedSimpArgs false

set_option maxHeartbeats 8000000 in
set_option maxRecDepth 100000 in
def laws_FnWaysLeadOfAll.c10 : PSigma fun P0_ : Prop => Hole P0_ → laws_FnWaysLeadOfAll.c9.1 := by
  refine' ⟨_, fun HP0_ => _⟩
  rotate_left 1
  intro k a0 a1 a2 A3 c3 l3 a4 r w HR3 HC3 _ _ _ _ kj5 HJ5 t264 t265 A11 t268 t269 A12 t272 t273 A13 t274 t275 A14 t276 t277 A15 t278 t279 A16 t280 t281 A17 t284 t285 A18 t288 t289 A19 t290 t291 A20 t292 t293 A21 t296 t297 A22 w24 v266 w25 v270 w26 _ w27 w28 w29 v282 w30 v286 w31 nd w32 v294 w33 v298 HO267 HO271 HO283 HO287 HO295 HO299 _ _ _ _ _ _ _ kj22 HJ22 f_ wc HO_11 HO_23 HO_31 HB kj152 HJ152 HC229 _ _ J_ K_ hJ_ hK_
  have H := HC229.out
  clear HC229
  by_cases c230 : t265 = true
  · subst c230
    have H1 : ((impl_PlayMoves.f kj152 a0 t264).bind fun bt315 => (if bt315.2 = true then (if bt315.1.toList = a1.toList then (if (t264.length : Int) = t272 then (if t277 = true then (if 0 < (t264.length : Int) then (laws_FnWaysLeadOfAll.j3 kj152 a0 a1 a2 l3 a4 t264 t272 t280 t281 t292 ((rd t264 0) != t276)) else (none)) else (laws_FnWaysLeadOfAll.j3 kj152 a0 a1 a2 l3 a4 t264 t272 t280 t281 t292 false)) else (laws_FnWaysLeadOfAll.j3 kj152 a0 a1 a2 l3 a4 t264 t272 t280 t281 t292 true)) else (laws_FnWaysLeadOfAll.j3 kj152 a0 a1 a2 l3 a4 t264 t272 t280 t281 t292 true)) else (laws_FnWaysLeadOfAll.j3 kj152 a0 a1 a2 l3 a4 t264 t272 t280 t281 t292 true))) = some r := by rw [if_pos rfl] at H; exact H
    clear H
    have H := H1
    clear H1
    replace H := Option.bind_eq_some_iff.mp H
    obtain ⟨⟨t315, t316⟩, A2310, H⟩ := H
    replace H : (if t316 = true then (if t315.toList = a1.toList then (if (t264.length : Int) = t272 then (if t277 = true then (if 0 < (t264.length : Int) then (laws_FnWaysLeadOfAll.j3 kj152 a0 a1 a2 l3 a4 t264 t272 t280 t281 t292 ((rd t264 0) != t276)) else (none)) else (laws_FnWaysLeadOfAll.j3 kj152 a0 a1 a2 l3 a4 t264 t272 t280 t281 t292 false)) else (laws_FnWaysLeadOfAll.j3 kj152 a0 a1 a2 l3 a4 t264 t272 t280 t281 t292 true)) else (laws_FnWaysLeadOfAll.j3 kj152 a0 a1 a2 l3 a4 t264 t272 t280 t281 t292 true)) else (laws_FnWaysLeadOfAll.j3 kj152 a0 a1 a2 l3 a4 t264 t272 t280 t281 t292 true)) = some r := H
    have A231 := Aside0.mk A2310
    clear A2310
    have HC232 := Aside0.mk H
    clear H
    obtain ⟨Ao233, co233, eo233⟩ := Kd.R_slice HO_11.out
    subst eo233
    go_upto_region 26 with (first | ((with_reducible refine gate_callee (f := 19) rfl ?_); refine goesL_ (some 351) rfl rfl Tryd.func19 (by kernel_rfl) rfl #[.string a0, .slice Ao233 t264.length co233] rfl (by (try simp only [List.map_toArray, List.map_cons, List.map_nil]); first | done | rfl | (simp only [List.length_drop, List.length_take]; rfl)) ?_; (with_reducible refine (impl_PlayMoves.calls kj152 a0 _ _ t264 t315 t316 _ ?side1 ?side2 A231.out).mono ?_); (case side1 => repeat (first | exact (Kd.R_reads' HO_11.out).2.2 | (with_reducible refine Kd.C_alloc ?_ _) | (with_reducible refine Kd.C_drewN ?_ _) | (with_reducible refine Kd.C_drew ?_))); (case side2 => exact (Kd.R_reads' HO_11.out).2.1); rintro e w234 ⟨rfl, hb⟩; refine ⟨_, rfl, ?_⟩; have n0_ := Aside0.mk (Kd.R_below (by (with_reducible repeat (first | apply Kd.R_alloc | apply Kd.R_drewN | apply Kd.R_drew)); exact HO_11.out) hb); have n1_ := Aside0.mk (Kd.R_below (by (with_reducible repeat (first | apply Kd.R_alloc | apply Kd.R_drewN | apply Kd.R_drew)); exact HO_23.out) hb); have n2_ := Aside0.mk (Kd.R_below (by (with_reducible repeat (first | apply Kd.R_alloc | apply Kd.R_drewN | apply Kd.R_drew)); exact HO_31.out) hb); have n3_ := Aside0.mk (below_step (by repeat (first | (with_reducible first | exact HB.out | apply below_alloc | apply pw_below_drewN | apply below_drew1) | exact HB.out)) hb); clear HO_11; clear HO_23; clear HO_31; clear HB; have HO_11 := n0_; have HO_23 := n1_; have HO_31 := n2_; have HB := n3_; clear n0_ n1_ n2_ n3_; (try clear hb); (try clear hb2); (try clear hk); (try clear hi)))
    (try simp only [Act.put, List.setIfInBounds_toArray, List.set_cons_zero, List.set_cons_succ])
    refine wp_cutF [o_,o_,o_,o_,o_,o_,o_,o_,o_,o_,o_,o_,o_,o_,o_,o_,o_,o_,o_,o_,o_,o_,o_,o_,o_,o_,o_,o_,o_,o_,o_,o_,o_,o_,o_,o_,o_,o_,o_,o_,o_,o_,o_,o_,o_,o_,o_,o_,o_,o_,o_,o_,o_,o_,o_,o_,o_,o_,o_,o_,o_,o_,o_,o_,o_,o_,o_,o_,o_,o_,o_,o_,o_,o_,o_,o_,o_,o_,o_,o_,o_,i_,i_,i_,i_,i_,i_,i_,i_,i_,i_,i_,i_,i_,i_,i_,i_,i_,i_,i_,i_,i_,i_,i_,i_,i_,i_,i_,i_,i_,i_,i_,i_,i_,i_,i_,i_,i_,i_,i_,i_,i_,i_,i_,i_,i_,i_,i_,i_,i_,i_,i_,i_,i_,i_,i_,i_,i_,i_,i_,i_,i_,i_,i_,i_,i_,i_,i_,i_,i_,i_,i_,i_,i_,i_,i_,i_,i_,i_,i_,i_,i_,i_,i_,i_,i_,i_,i_,i_,i_,i_,i_,i_,i_,i_,i_,i_,i_,i_,i_,i_,i_,i_,i_,i_,i_,i_,i_,i_,i_,i_,i_,i_,i_,i_,i_,i_,i_,i_,i_,i_,i_,i_,i_,i_,i_,i_,i_,i_,i_,i_,i_,i_,i_,i_,i_,i_,i_,i_,i_,i_,i_,i_,i_,i_,i_,i_,i_,i_,i_,i_,i_,i_,i_,i_,i_,i_,i_,i_,i_,i_,i_,i_,i_,i_,i_,i_,i_,i_,i_,i_,i_,i_,i_,i_,i_,i_,i_,i_,i_,i_,i_,i_,i_,i_,i_,i_,i_,i_,i_,i_,i_,i_,i_,i_,i_,i_,i_,i_,i_,i_,i_,i_,i_,i_,i_,i_,i_,i_,i_,i_,i_,i_,i_,i_,i_,i_,i_,i_,i_,i_,i_,i_,i_,i_,i_,i_,i_,i_,i_,i_,i_,i_,i_,i_,i_,i_,i_,i_,i_,i_,i_,i_,i_,i_,i_,i_,i_,i_,i_,i_,i_,i_,i_,i_,i_,i_,i_,i_,i_,i_,i_,i_,i_,i_,i_,i_,i_,i_,i_,i_,i_,i_,i_,i_,i_,i_,i_,i_,i_,i_,i_,i_,i_,i_,i_,i_,i_,i_,i_,i_,i_,i_,i_,i_,i_,i_,o_,o_,o_,i_,i_,i_,i_,o_,o_,o_,i_,i_,i_,i_,i_,i_,i_,i_,i_,i_,i_,i_,i_,i_,i_,i_,i_,i_,i_,i_,i_,i_,i_,i_,i_,i_,i_,i_,i_,i_,i_,i_,i_,i_,i_,i_,i_,i_,i_,i_,i_,i_,i_,i_,i_,i_,i_,i_,i_,i_,i_,i_,i_,i_,i_,i_,i_,i_,i_,i_,i_,i_,i_,i_,i_,i_,i_,i_,i_,i_,i_,i_,i_,i_,i_,i_,i_,i_,i_,i_,i_,i_,i_,i_,i_,i_,i_,i_,i_,i_,i_,i_,i_,i_,i_,i_,i_,i_,i_,i_,i_,i_,i_,i_,i_,i_,i_,i_,i_,i_,i_,i_,i_,i_,i_,i_,i_,i_,i_,i_,i_,i_,i_,i_,i_,i_,i_,i_,i_,i_,i_,i_,i_,i_,i_,i_,i_,i_,i_,i_,i_,i_,i_,i_,i_,i_,i_,i_,i_,i_,i_,i_,i_,i_,i_,i_,i_,i_,i_,i_,i_,i_,i_,i_,i_,i_,i_,i_,i_,i_,i_,i_,i_,i_,i_,i_,i_,i_,i_,i_,i_,i_,i_,i_,i_,i_,i_,i_,i_,i_,i_,i_,i_,i_,i_,i_,i_,i_,i_,i_,i_,i_,i_,i_,i_,i_,i_,i_,i_,i_,i_,i_,i_,i_,i_,i_,i_,i_,i_,i_,i_,i_,i_,i_,i_,i_,i_,i_,i_,i_,i_,i_,i_,i_,i_] (fun f_ wc => ∃ (kq : Nat) (x376_231 : Bool), (f_ 376) = .bool x376_231 ∧ Aside0 (laws_FnWaysLeadOfAll.j3 kq a0 a1 a2 l3 a4 t264 t272 t280 t281 t292 x376_231 = some r) ∧ Aside0 (kq ≤ kj152) ∧ Aside0 (Kd.R (Kd.int .i64) 3 wc w.heap.size (fun k_ => some k_ ≠ (v294 : Value).ownBlock) (.slice Ao233 t264.length co233) t264) ∧ Aside0 (Kd.R Kd.string 9 wc w.heap.size (fun _ => True) v282 t280) ∧ Aside0 (Kd.R (Kd.int .i64) 3 wc w.heap.size (fun k_ => some k_ ≠ ((.slice Ao233 t264.length co233) : Value).ownBlock) v294 t292) ∧ Aside0 (Below w.heap.size w wc)) ?rest ?first
    case first =>
      intro J_ K_ hJ_ hK_
      have H := HC232.out
      clear HC232
      by_cases c235 : t316 = true
      · subst c235
        have H1 : (if t315.toList = a1.toList then (if (t264.length : Int) = t272 then (if t277 = true then (if 0 < (t264.length : Int) then (laws_FnWaysLeadOfAll.j3 kj152 a0 a1 a2 l3 a4 t264 t272 t280 t281 t292 ((rd t264 0) != t276)) else (none)) else (laws_FnWaysLeadOfAll.j3 kj152 a0 a1 a2 l3 a4 t264 t272 t280 t281 t292 false)) else (laws_FnWaysLeadOfAll.j3 kj152 a0 a1 a2 l3 a4 t264 t272 t280 t281 t292 true)) else (laws_FnWaysLeadOfAll.j3 kj152 a0 a1 a2 l3 a4 t264 t272 t280 t281 t292 true)) = some r := by rw [if_pos rfl] at H; exact H
        clear H
        have H := H1
        clear H1
        by_cases c236 : t315.toList = a1.toList
        · rw [if_pos c236] at H
          have c236b0 : (t315.toList == a1.toList) = true := beq_iff_eq.mpr c236
          have c236b1 : (t315.toList != a1.toList) = false := bne_eq_false_iff_eq.mpr c236
          (try (have c236n1 : (!(t315.toList == a1.toList)) = false := c236b1))
          clear c236
          (first | rw [c236b0] | (simp only [i64_w, i32_w]; rw [c236b0]) | skip)
          by_cases c237 : (t264.length : Int) = t272
          · rw [if_pos c237] at H
            have c237b0 : ((t264.length : Int) == t272) = true := beq_iff_eq.mpr c237
            have c237b1 : ((t264.length : Int) != t272) = false := bne_eq_false_iff_eq.mpr c237
            clear c237
            by_cases c238 : t277 = true
            · subst c238
              have H1 : (if 0 < (t264.length : Int) then (laws_FnWaysLeadOfAll.j3 kj152 a0 a1 a2 l3 a4 t264 t272 t280 t281 t292 ((rd t264 0) != t276)) else (none)) = some r := by rw [if_pos rfl] at H; exact H
              clear H
              have H := H1
              clear H1
              by_cases c239 : 0 < (t264.length : Int)
              · rw [if_pos c239] at H
                have c239b0 : decide (0 < (t264.length : Int)) = true := decide_eq_true c239
                have c239b1 : decide (0 < t264.length) = true := decide_eq_true (by omega)
                clear c239
                have H' := Aside0.mk H
                clear H
                have p317 : 0 ≤ (0 : Int) := (by omega)
                have q317 : 0 < (t264.length : Int) := of_decide_eq_true (by first | (with_reducible assumption) | assumption)
                obtain ⟨ad317, e317, hx317_0⟩ := Kd.at_int (Kd.R_reads' HO_11.out).2.2 0 p317 q317
                cases e317
                have qi317 : (0 < t264.length) = True := eq_true (by omega)
                (try rw [show ((0 : Int)).toNat = 0 from rfl] at hx317_0)
                (try rw [Addr.add_zero'] at hx317_0)
                replace p317 := eq_true p317
                replace q317 := eq_true q317
                go_wp2
                refine Met.intro (hJ_ _ _ ?mg_ ?rel)
                case mg_ => kernel_rfl
                case rel => exact ⟨_, (((rd t264 0) != t276)), (by first | rfl | ((conv => lhs; whnf); first | rfl | (simp; done) | (simp [*]; done))), H', ⟨by have := HJ5.out; have := HJ22.out; have := HJ152.out; first | omega | exact Nat.le_refl _⟩, ⟨by (with_reducible repeat (first | apply Kd.R_alloc | apply Kd.R_drewN | apply Kd.R_drew)); exact HO_11.out⟩, ⟨by (with_reducible repeat (first | apply Kd.R_alloc | apply Kd.R_drewN | apply Kd.R_drew)); exact HO_23.out⟩, ⟨by (with_reducible repeat (first | apply Kd.R_alloc | apply Kd.R_drewN | apply Kd.R_drew)); exact HO_31.out⟩, ⟨by repeat (first | (with_reducible first | exact HB.out | apply below_alloc | apply pw_below_drewN | apply below_drew1) | exact HB.out)⟩⟩
              · rw [if_neg c239] at H
                exact absurd H (by simp)
            · replace c238 := Bool.eq_false_iff.mpr c238
              subst c238
              have H1 : (laws_FnWaysLeadOfAll.j3 kj152 a0 a1 a2 l3 a4 t264 t272 t280 t281 t292 false) = some r := by rw [if_neg (show ¬ (false = true) by decide)] at H; exact H
              clear H
              have H := H1
              clear H1
              have H' := Aside0.mk H
              clear H
              go_wp2
              refine Met.intro (hJ_ _ _ ?mg_ ?rel)
              case mg_ => kernel_rfl
              case rel => exact ⟨_, (false), (by first | rfl | ((conv => lhs; whnf); first | rfl | (simp; done) | (simp [*]; done))), H', ⟨by have := HJ5.out; have := HJ22.out; have := HJ152.out; first | omega | exact Nat.le_refl _⟩, ⟨by (with_reducible repeat (first | apply Kd.R_alloc | apply Kd.R_drewN | apply Kd.R_drew)); exact HO_11.out⟩, ⟨by (with_reducible repeat (first | apply Kd.R_alloc | apply Kd.R_drewN | apply Kd.R_drew)); exact HO_23.out⟩, ⟨by (with_reducible repeat (first | apply Kd.R_alloc | apply Kd.R_drewN | apply Kd.R_drew)); exact HO_31.out⟩, ⟨by repeat (first | (with_reducible first | exact HB.out | apply below_alloc | apply pw_below_drewN | apply below_drew1) | exact HB.out)⟩⟩
          · rw [if_neg c237] at H
            have c237b0 : ((t264.length : Int) == t272) = false := beq_eq_false_iff_ne.mpr c237
            have c237b1 : ((t264.length : Int) != t272) = true := bne_iff_ne.mpr c237
            have H' := Aside0.mk H
            clear H
            go_wp2
            refine Met.intro (hJ_ _ _ ?mg_ ?rel)
            case mg_ => kernel_rfl
            case rel => exact ⟨_, (true), (by first | rfl | ((conv => lhs; whnf); first | rfl | (simp; done) | (simp [*]; done))), H', ⟨by have := HJ5.out; have := HJ22.out; have := HJ152.out; first | omega | exact Nat.le_refl _⟩, ⟨by (with_reducible repeat (first | apply Kd.R_alloc | apply Kd.R_drewN | apply Kd.R_drew)); exact HO_11.out⟩, ⟨by (with_reducible repeat (first | apply Kd.R_alloc | apply Kd.R_drewN | apply Kd.R_drew)); exact HO_23.out⟩, ⟨by (with_reducible repeat (first | apply Kd.R_alloc | apply Kd.R_drewN | apply Kd.R_drew)); exact HO_31.out⟩, ⟨by repeat (first | (with_reducible first | exact HB.out | apply below_alloc | apply pw_below_drewN | apply below_drew1) | exact HB.out)⟩⟩
        · rw [if_neg c236] at H
          have c236b0 : (t315.toList == a1.toList) = false := beq_eq_false_iff_ne.mpr c236
          have c236b1 : (t315.toList != a1.toList) = true := bne_iff_ne.mpr c236
          (try (have c236n1 : (!(t315.toList == a1.toList)) = true := c236b1))
          (first | rw [c236b0] | (simp only [i64_w, i32_w]; rw [c236b0]) | skip)
          have H' := Aside0.mk H
          clear H
          go_wp2
          refine Met.intro (hJ_ _ _ ?mg_ ?rel)
          case mg_ => kernel_rfl
          case rel => exact ⟨_, (true), (by first | rfl | ((conv => lhs; whnf); first | rfl | (simp; done) | (simp [*]; done))), H', ⟨by have := HJ5.out; have := HJ22.out; have := HJ152.out; first | omega | exact Nat.le_refl _⟩, ⟨by (with_reducible repeat (first | apply Kd.R_alloc | apply Kd.R_drewN | apply Kd.R_drew)); exact HO_11.out⟩, ⟨by (with_reducible repeat (first | apply Kd.R_alloc | apply Kd.R_drewN | apply Kd.R_drew)); exact HO_23.out⟩, ⟨by (with_reducible repeat (first | apply Kd.R_alloc | apply Kd.R_drewN | apply Kd.R_drew)); exact HO_31.out⟩, ⟨by repeat (first | (with_reducible first | exact HB.out | apply below_alloc | apply pw_below_drewN | apply below_drew1) | exact HB.out)⟩⟩
      · replace c235 := Bool.eq_false_iff.mpr c235
        subst c235
        have H1 : (laws_FnWaysLeadOfAll.j3 kj152 a0 a1 a2 l3 a4 t264 t272 t280 t281 t292 true) = some r := by rw [if_neg (show ¬ (false = true) by decide)] at H; exact H
        clear H
        have H := H1
        clear H1
        have H' := Aside0.mk H
        clear H
        go_wp2
        refine Met.intro (hJ_ _ _ ?mg_ ?rel)
        case mg_ => kernel_rfl
        case rel => exact ⟨_, (true), (by first | rfl | ((conv => lhs; whnf); first | rfl | (simp; done) | (simp [*]; done))), H', ⟨by have := HJ5.out; have := HJ22.out; have := HJ152.out; first | omega | exact Nat.le_refl _⟩, ⟨by (with_reducible repeat (first | apply Kd.R_alloc | apply Kd.R_drewN | apply Kd.R_drew)); exact HO_11.out⟩, ⟨by (with_reducible repeat (first | apply Kd.R_alloc | apply Kd.R_drewN | apply Kd.R_drew)); exact HO_23.out⟩, ⟨by (with_reducible repeat (first | apply Kd.R_alloc | apply Kd.R_drewN | apply Kd.R_drew)); exact HO_31.out⟩, ⟨by repeat (first | (with_reducible first | exact HB.out | apply below_alloc | apply pw_below_drewN | apply below_drew1) | exact HB.out)⟩⟩
    case rest =>
      intro f_ wc hcut
      dsimp only [maskF] at hcut ⊢
      generalize f_ 376 = u376 at hcut ⊢
      repeat revert ‹_›
      intro HP0_
      exact HP0_.out
  · replace c230 := Bool.eq_false_iff.mpr c230
    subst c230
    have H1 : (laws_FnWaysLeadOfAll.j6 kj152 a0 a1 a2 l3 a4 t272 t280 t281) = some r := by rw [if_neg (show ¬ (false = true) by decide)] at H; exact H
    clear H
    have H := H1
    clear H1
    have H' := Aside0.mk H
    clear H
    go_wp2
    refine Met.intro (hJ_ _ _ ?mg_ ?rel)
    case mg_ => kernel_rfl
    case rel => exact ⟨_, H', ⟨by have := HJ5.out; have := HJ22.out; have := HJ152.out; first | omega | exact Nat.le_refl _⟩, ⟨by (with_reducible repeat (first | apply Kd.R_alloc | apply Kd.R_drewN | apply Kd.R_drew)); exact HO_23.out⟩, ⟨by repeat (first | (with_reducible first | exact HB.out | apply below_alloc | apply pw_below_drewN | apply below_drew1) | exact HB.out)⟩⟩

set_option maxHeartbeats 8000000 in
set_option maxRecDepth 100000 in
def laws_FnWaysLeadOfAll.c11 : PSigma fun P0_ : Prop => Hole P0_ → laws_FnWaysLeadOfAll.c10.1 := by
  refine' ⟨_, fun HP0_ => _⟩
  rotate_left 1
  intro k a0 a1 a2 A3 c3 l3 a4 r w HR3 HC3 _ _ _ _ kj5 HJ5 t264 t268 t269 A12 t272 t273 A13 t274 t275 A14 t276 t277 A15 t278 t279 A16 t280 t281 A17 t284 t285 A18 t288 t289 A19 t290 t291 A20 t292 t293 A21 t296 t297 A22 w24 w25 v270 w26 _ w27 w28 w29 v282 w30 v286 w31 nd w32 v294 w33 v298 HO283 HO287 _ _ _ _ _ kj22 HJ22 _ _ kj152 HJ152 _ _ J_ K_ hK_ A11 t315 t316 A231 HC232 Ao233 co233 HO267 HO271 HO295 HO299 _ _ hJ_ w234 HO_11 HO_23 HO_31 HB _ _ _ _ f_ wc u376 hcut
  clear HC232
  try clear c1
  try clear c2
  try clear p2
  try clear c3
  try clear p3
  try clear q3
  try clear hx3
  try clear qi3
  try clear c4
  try clear c5
  try clear c6
  try clear p6
  try clear c7
  try clear c7b0
  try clear c7b1
  try clear c8
  try clear c8b0
  try clear c8b1
  try clear c9
  try clear c9b0
  try clear c9b1
  try clear c10
  try clear c11
  try clear c12
  try clear c13
  try clear c14
  try clear c15
  try clear c16
  try clear c17
  try clear c19
  try clear c23
  try clear p31
  try clear q31
  try clear hx31
  try clear qi31
  try clear c34
  try clear c34b0
  try clear c34b1
  try clear c34b2
  try clear c36
  try clear c37
  try clear c37b0
  try clear c37b1
  try clear c37b2
  try clear c40
  try clear c40b0
  try clear c40b1
  try clear c41
  try clear c41b0
  try clear c41b1
  try clear c41b2
  try clear c44
  try clear c44b0
  try clear c44b1
  try clear c45
  try clear c45b0
  try clear c45b1
  try clear c45b2
  try clear c49
  try clear c50
  try clear c50b0
  try clear c50b1
  try clear c50b2
  try clear c55
  try clear c55b0
  try clear c55b1
  try clear c56
  try clear c56b0
  try clear c56b1
  try clear c56b2
  try clear c62
  try clear c63
  try clear c64
  try clear c64b0
  try clear c64b1
  try clear c64b2
  try clear p64
  try clear c71
  try clear c71b0
  try clear c71b1
  try clear c71b2
  try clear c78
  try clear c78b0
  try clear c78b1
  try clear c78b2
  try clear c85
  try clear c85b0
  try clear c85b1
  try clear c85b2
  try clear c98
  try clear c98b0
  try clear c98b1
  try clear c98b2
  try clear c105
  try clear c105b0
  try clear c105b1
  try clear c105b2
  try clear c112
  try clear c112b0
  try clear c112b1
  try clear c112b2
  try clear c119
  try clear c119b0
  try clear c119b1
  try clear c119b2
  try clear c152
  try clear c154
  try clear c159
  try clear c160
  try clear c160b0
  try clear c160b1
  try clear c161
  try clear c161b0
  try clear c161b1
  try clear c161b2
  try clear c166
  try clear c168
  try clear c170
  try clear c170b0
  try clear c170b1
  try clear c171
  try clear c172
  try clear c172b0
  try clear c172b1
  try clear c173
  try clear c174
  try clear c174b0
  try clear c174b1
  try clear c230
  try clear c235
  try clear c236
  try clear c236b0
  try clear c236b1
  try clear c237
  try clear c237b0
  try clear c237b1
  try clear c238
  try clear c239
  try clear c239b0
  try clear c239b1
  try clear hx317_0
  try clear p2
  try clear p317
  try clear p6
  try clear p64
  try clear q317
  obtain ⟨kq, x376_231, rfl, HA, HJ231, HO_11, HO_23, HO_31, HB⟩ := hcut
  cases kq with
  | zero => exact absurd HA.out (by simp [laws_FnWaysLeadOfAll.j3])
  | succ kj231 =>
    have H := HA.out
    clear HA
    simp only [laws_FnWaysLeadOfAll.j3] at H
    by_cases c240 : x376_231 = true
    · subst c240
      have H1 : (some false) = some r := by rw [if_pos rfl] at H; exact H
      clear H
      have H := H1
      clear H1
      obtain rfl := Option.some.inj H
      go_wp2
      go_ret
      exact ⟨by first | rfl | (simp [errW_none, errW_some] <;> rfl) | (simp [*, errW_none, errW_some] <;> rfl), by repeat (first | (with_reducible first | exact HB.out | apply below_alloc | apply pw_below_drewN | apply below_drew1) | exact HB.out)⟩
    · replace c240 := Bool.eq_false_iff.mpr c240
      subst c240
      have H1 : (laws_FnWaysLeadOfAll.l0 kj231 a0 a1 a2 l3 a4 t264 t272 t280 t281 t292 (t292.length : Int) 0) = some r := by rw [if_neg (show ¬ (false = true) by decide)] at H; exact H
      clear H
      have H := H1
      clear H1
      have H' := Aside0.mk H
      clear H
      obtain ⟨Ao241, co241, eo241⟩ := Kd.R_slice HO_31.out
      subst eo241
      go_wp2
      go_loopg [379] kj231 (fun kq v379 w' => ∃ (x379_5 : Int), v379 = .int .i64 x379_5 ∧ Aside0 (laws_FnWaysLeadOfAll.l0 kq a0 a1 a2 l3 a4 t264 t272 t280 t281 t292 (t292.length : Int) x379_5 = some r) ∧ Aside0 (kq ≤ kj231) ∧ Aside0 (Kd.R (Kd.int .i64) 3 w' w.heap.size (fun k_ => some k_ ≠ ((.slice Ao241 t292.length co241) : Value).ownBlock) (.slice Ao233 t264.length co233) t264) ∧ Aside0 (Kd.R Kd.string 9 w' w.heap.size (fun _ => True) v282 t280) ∧ Aside0 (Kd.R (Kd.int .i64) 3 w' w.heap.size (fun k_ => some k_ ≠ ((.slice Ao233 t264.length co233) : Value).ownBlock) (.slice Ao241 t292.length co241) t292) ∧ Aside0 (Below w.heap.size w w'))
      case atStart => exact ⟨(0), (by first | rfl | (simp; done) | (simp [*]; done)), H', ⟨Nat.le_refl _⟩, ⟨by (with_reducible repeat (first | apply Kd.R_alloc | apply Kd.R_drewN | apply Kd.R_drew)); exact HO_11.out⟩, ⟨by (with_reducible repeat (first | apply Kd.R_alloc | apply Kd.R_drewN | apply Kd.R_drew)); exact HO_23.out⟩, ⟨by (with_reducible repeat (first | apply Kd.R_alloc | apply Kd.R_drewN | apply Kd.R_drew)); exact HO_31.out⟩, ⟨by repeat (first | (with_reducible first | exact HB.out | apply below_alloc | apply pw_below_drewN | apply below_drew1) | exact HB.out)⟩⟩
      case round =>
        repeat revert ‹_›
        intro HP0_
        exact HP0_.out

set_option maxHeartbeats 8000000 in
set_option maxRecDepth 100000 in
theorem laws_FnWaysLeadOfAll.c12 : laws_FnWaysLeadOfAll.c11.1 := by
  intro k a0 a1 a2 A3 c3 l3 a4 r w HR3 HC3 _ _ _ _ kj5 HJ5 t264 t268 t269 A12 t272 t273 A13 t274 t275 A14 t276 t277 A15 t278 t279 A16 t280 t281 A17 t284 t285 A18 t288 t289 A19 t290 t291 A20 t292 t293 A21 t296 t297 A22 w24 w25 v270 w26 _ w27 w28 w29 v282 w30 v286 w31 nd w32 w33 v298 HO283 HO287 _ _ _ _ _ kj22 HJ22 _ _ kj152 HJ152 _ _ J_ K_ hK_ A11 t315 t316 A231 Ao233 co233 w234 _ _ f_ wc HO_23 HB kj231 HJ231 H' Ao241 co241 HO267 HO271 HO295 HO299 _ _ hJ_ _ _ HO_11 HO_31 gk wr u10 u45 u46 u47 u49 u379 u380 u381 u382 u383 u384 u385 u386 u387 u388 u389 u390 u391 u392 u393 u394 u395 u396 u397 u398 u399 hrel _ _ _ _
  clear H'
  try clear c1
  try clear c2
  try clear p2
  try clear c3
  try clear p3
  try clear q3
  try clear hx3
  try clear qi3
  try clear c4
  try clear c5
  try clear c6
  try clear p6
  try clear c7
  try clear c7b0
  try clear c7b1
  try clear c8
  try clear c8b0
  try clear c8b1
  try clear c9
  try clear c9b0
  try clear c9b1
  try clear c10
  try clear c11
  try clear c12
  try clear c13
  try clear c14
  try clear c15
  try clear c16
  try clear c17
  try clear c19
  try clear c23
  try clear c24
  try clear p31
  try clear q31
  try clear hx31
  try clear qi31
  try clear c34
  try clear c34b0
  try clear c34b1
  try clear c34b2
  try clear c36
  try clear c37
  try clear c37b0
  try clear c37b1
  try clear c37b2
  try clear c40
  try clear c40b0
  try clear c40b1
  try clear c41
  try clear c41b0
  try clear c41b1
  try clear c41b2
  try clear c44
  try clear c44b0
  try clear c44b1
  try clear c45
  try clear c45b0
  try clear c45b1
  try clear c45b2
  try clear c49
  try clear c50
  try clear c50b0
  try clear c50b1
  try clear c50b2
  try clear c55
  try clear c55b0
  try clear c55b1
  try clear c56
  try clear c56b0
  try clear c56b1
  try clear c56b2
  try clear c62
  try clear c63
  try clear c64
  try clear c64b0
  try clear c64b1
  try clear c64b2
  try clear p64
  try clear c71
  try clear c71b0
  try clear c71b1
  try clear c71b2
  try clear c78
  try clear c78b0
  try clear c78b1
  try clear c78b2
  try clear c85
  try clear c85b0
  try clear c85b1
  try clear c85b2
  try clear c98
  try clear c98b0
  try clear c98b1
  try clear c98b2
  try clear c105
  try clear c105b0
  try clear c105b1
  try clear c105b2
  try clear c112
  try clear c112b0
  try clear c112b1
  try clear c112b2
  try clear c119
  try clear c119b0
  try clear c119b1
  try clear c119b2
  try clear c152
  try clear c154
  try clear c159
  try clear c160
  try clear c160b0
  try clear c160b1
  try clear c161
  try clear c161b0
  try clear c161b1
  try clear c161b2
  try clear c166
  try clear c168
  try clear c170
  try clear c170b0
  try clear c170b1
  try clear c171
  try clear c172
  try clear c172b0
  try clear c172b1
  try clear c173
  try clear c174
  try clear c174b0
  try clear c174b1
  try clear c230
  try clear c235
  try clear c236
  try clear c236b0
  try clear c236b1
  try clear c237
  try clear c237b0
  try clear c237b1
  try clear c238
  try clear c239
  try clear c239b0
  try clear c239b1
  try clear c240
  try clear hx317_0
  try clear p2
  try clear p3
  try clear p31
  try clear p317
  try clear p6
  try clear p64
  try clear q3
  try clear q31
  try clear q317
  obtain ⟨x379_5, rfl, HA, HK5, HO_11, HO_23, HO_377, HB⟩ := hrel
  cases gk with
  | zero => exact absurd HA.out (by simp [laws_FnWaysLeadOfAll.l0])
  | succ k5 =>
    have H := HA.out
    clear HA
    simp only [laws_FnWaysLeadOfAll.l0] at H
    by_cases c242 : x379_5 < (t292.length : Int)
    · rw [if_pos c242] at H
      have c242b0 : decide (x379_5 < (t292.length : Int)) = true := decide_eq_true c242
      clear c242
      by_cases c243 : 0 ≤ x379_5
      · rw [if_pos c243] at H
        have c243b0 : decide (0 ≤ x379_5) = true := decide_eq_true c243
        clear c243
        by_cases c244 : x379_5 < (t292.length : Int)
        · rw [if_pos c244] at H
          have c244b0 : decide (x379_5 < (t292.length : Int)) = true := decide_eq_true c244
          clear c244
          have H' := Aside0.mk H
          clear H
          have p318 : 0 ≤ (x379_5 : Int) := of_decide_eq_true (by first | (with_reducible assumption) | assumption)
          have q318 : x379_5 < (t292.length : Int) := of_decide_eq_true (by first | (with_reducible assumption) | assumption)
          obtain ⟨ad318, e318, hx318_0⟩ := Kd.at_int (Kd.R_reads' HO_377.out).2.2 x379_5 p318 q318
          cases e318
          replace p318 := eq_true p318
          replace q318 := eq_true q318
          go_wp2
          go_loopg [47, 386] k5 (fun kq v47 v386 w' => ∃ (x47_6 : Int) (x386_6 : Int), v47 = .int .i64 x47_6 ∧ v386 = .int .i64 x386_6 ∧ Aside0 (laws_FnWaysLeadOfAll.l1 kq a0 a1 a2 l3 a4 t264 t272 t280 t281 x379_5 (rd t292 x379_5) x47_6 t292 (t292.length : Int) x379_5 t264 (t264.length : Int) x386_6 = some r) ∧ Aside0 (kq ≤ k5) ∧ Aside0 (Kd.R (Kd.int .i64) 3 w' w.heap.size (fun k_ => some k_ ≠ ((.slice (some ad318) t292.length co241) : Value).ownBlock) (.slice Ao233 t264.length co233) t264) ∧ Aside0 (Kd.R Kd.string 9 w' w.heap.size (fun _ => True) v282 t280) ∧ Aside0 (Kd.R (Kd.int .i64) 3 w' w.heap.size (fun k_ => some k_ ≠ ((.slice Ao233 t264.length co233) : Value).ownBlock ∧ some k_ ≠ ((.slice Ao233 t264.length co233) : Value).ownBlock) (.slice (some ad318) t292.length co241) t292) ∧ Aside0 (Kd.R (Kd.int .i64) 3 w' w.heap.size (fun k_ => some k_ ≠ ((.slice (some ad318) t292.length co241) : Value).ownBlock) (.slice Ao233 t264.length co233) t264) ∧ Aside0 (Below w.heap.size w w'))
          case atStart => exact ⟨(0), (0), (by first | rfl | (simp; done) | (simp [*]; done)), (by first | rfl | (simp; done) | (simp [*]; done)), H', ⟨Nat.le_refl _⟩, ⟨by (with_reducible repeat (first | apply Kd.R_alloc | apply Kd.R_drewN | apply Kd.R_drew)); exact HO_11.out⟩, ⟨by (with_reducible repeat (first | apply Kd.R_alloc | apply Kd.R_drewN | apply Kd.R_drew)); exact HO_23.out⟩, ⟨by (with_reducible repeat (first | apply Kd.R_alloc | apply Kd.R_drewN | apply Kd.R_drew)); exact Kd.R_mono HO_377.out (fun _ hk => ⟨hk, hk⟩)⟩, ⟨by (with_reducible repeat (first | apply Kd.R_alloc | apply Kd.R_drewN | apply Kd.R_drew)); exact HO_11.out⟩, ⟨by repeat (first | (with_reducible first | exact HB.out | apply below_alloc | apply pw_below_drewN | apply below_drew1) | exact HB.out)⟩⟩
          case round =>
            clear H'
            try clear c1
            try clear c2
            try clear p2
            try clear c3
            try clear p3
            try clear q3
            try clear hx3
            try clear qi3
            try clear c4
            try clear c5
            try clear c6
            try clear p6
            try clear c7
            try clear c7b0
            try clear c7b1
            try clear c8
            try clear c8b0
            try clear c8b1
            try clear c9
            try clear c9b0
            try clear c9b1
            try clear c10
            try clear c11
            try clear c12
            try clear c13
            try clear c14
            try clear c15
            try clear c16
            try clear c17
            try clear c19
            try clear c23
            try clear c24
            try clear p31
            try clear q31
            try clear hx31
            try clear qi31
            try clear c34
            try clear c34b0
            try clear c34b1
            try clear c34b2
            try clear c36
            try clear c37
            try clear c37b0
            try clear c37b1
            try clear c37b2
            try clear c40
            try clear c40b0
            try clear c40b1
            try clear c41
            try clear c41b0
            try clear c41b1
            try clear c41b2
            try clear c44
            try clear c44b0
            try clear c44b1
            try clear c45
            try clear c45b0
            try clear c45b1
            try clear c45b2
            try clear c49
            try clear c50
            try clear c50b0
            try clear c50b1
            try clear c50b2
            try clear c55
            try clear c55b0
            try clear c55b1
            try clear c56
            try clear c56b0
            try clear c56b1
            try clear c56b2
            try clear c62
            try clear c63
            try clear c64
            try clear c64b0
            try clear c64b1
            try clear c64b2
            try clear p64
            try clear c71
            try clear c71b0
            try clear c71b1
            try clear c71b2
            try clear c78
            try clear c78b0
            try clear c78b1
            try clear c78b2
            try clear c85
            try clear c85b0
            try clear c85b1
            try clear c85b2
            try clear c98
            try clear c98b0
            try clear c98b1
            try clear c98b2
            try clear c105
            try clear c105b0
            try clear c105b1
            try clear c105b2
            try clear c112
            try clear c112b0
            try clear c112b1
            try clear c112b2
            try clear c119
            try clear c119b0
            try clear c119b1
            try clear c119b2
            try clear c152
            try clear c154
            try clear c159
            try clear c160
            try clear c160b0
            try clear c160b1
            try clear c161
            try clear c161b0
            try clear c161b1
            try clear c161b2
            try clear c166
            try clear c168
            try clear c170
            try clear c170b0
            try clear c170b1
            try clear c171
            try clear c172
            try clear c172b0
            try clear c172b1
            try clear c173
            try clear c174
            try clear c174b0
            try clear c174b1
            try clear c230
            try clear c235
            try clear c236
            try clear c236b0
            try clear c236b1
            try clear c237
            try clear c237b0
            try clear c237b1
            try clear c238
            try clear c239
            try clear c239b0
            try clear c239b1
            try clear c240
            try clear c242
            try clear c242b0
            try clear c243
            try clear c243b0
            try clear c244
            try clear c244b0
            try clear hx317_0
            try clear hx318_0
            try clear p2
            try clear p3
            try clear p31
            try clear p317
            try clear p318
            try clear p6
            try clear p64
            try clear q3
            try clear q31
            try clear q317
            try clear q318
            obtain ⟨x47_6, x386_6, rfl, rfl, HA, HK6, HO_11, HO_23, HO_377, HO_384, HB⟩ := hrel
            cases gk with
            | zero => exact absurd HA.out (by simp [laws_FnWaysLeadOfAll.l1])
            | succ k6 =>
              have H := HA.out
              clear HA
              simp only [laws_FnWaysLeadOfAll.l1] at H
              by_cases c245 : x386_6 < (t264.length : Int)
              · rw [if_pos c245] at H
                have c245b0 : decide (x386_6 < (t264.length : Int)) = true := decide_eq_true c245
                clear c245
                by_cases c246 : 0 ≤ x386_6
                · rw [if_pos c246] at H
                  have c246b0 : decide (0 ≤ x386_6) = true := decide_eq_true c246
                  clear c246
                  by_cases c247 : x386_6 < (t264.length : Int)
                  · rw [if_pos c247] at H
                    have c247b0 : decide (x386_6 < (t264.length : Int)) = true := decide_eq_true c247
                    clear c247
                    by_cases c248 : (rd t264 x386_6) = x379_5
                    · rw [if_pos c248] at H
                      have c248b0 : ((rd t264 x386_6) == x379_5) = true := beq_iff_eq.mpr c248
                      have c248b1 : ((rd t264 x386_6) != x379_5) = false := bne_eq_false_iff_eq.mpr c248
                      clear c248
                      have H' := Aside0.mk H
                      clear H
                      have p319 : 0 ≤ (x386_6 : Int) := of_decide_eq_true (by first | (with_reducible assumption) | assumption)
                      have q319 : x386_6 < (t264.length : Int) := of_decide_eq_true (by first | (with_reducible assumption) | assumption)
                      obtain ⟨ad319, e319, hx319_0⟩ := Kd.at_int (Kd.R_reads' HO_384.out).2.2 x386_6 p319 q319
                      cases e319
                      replace p319 := eq_true p319
                      replace q319 := eq_true q319
                      go_wp2
                      go_roundg k6
                      case measure => have := HJ5.out; have := HJ22.out; have := HJ152.out; have := HJ231.out; have := HK5.out; have := HK6.out; omega
                      case rel => exact ⟨(wrap64 (x47_6 + 1)), (wrap64 (x386_6 + 1)), (by first | rfl | ((conv => lhs; whnf); first | rfl | (simp; done) | (simp [*]; done))), (by first | rfl | ((conv => lhs; whnf); first | rfl | (simp; done) | (simp [*]; done))), H', ⟨by have := HJ5.out; have := HJ22.out; have := HJ152.out; have := HJ231.out; have := HK5.out; have := HK6.out; omega⟩, ⟨by (with_reducible repeat (first | apply Kd.R_alloc | apply Kd.R_drewN | apply Kd.R_drew)); exact HO_11.out⟩, ⟨by (with_reducible repeat (first | apply Kd.R_alloc | apply Kd.R_drewN | apply Kd.R_drew)); exact HO_23.out⟩, ⟨by (with_reducible repeat (first | apply Kd.R_alloc | apply Kd.R_drewN | apply Kd.R_drew)); exact HO_377.out⟩, ⟨by (with_reducible repeat (first | apply Kd.R_alloc | apply Kd.R_drewN | apply Kd.R_drew)); exact HO_384.out⟩, ⟨by repeat (first | (with_reducible first | exact HB.out | apply below_alloc | apply pw_below_drewN | apply below_drew1) | exact HB.out)⟩⟩
                    · rw [if_neg c248] at H
                      have c248b0 : ((rd t264 x386_6) == x379_5) = false := beq_eq_false_iff_ne.mpr c248
                      have c248b1 : ((rd t264 x386_6) != x379_5) = true := bne_iff_ne.mpr c248
                      have H' := Aside0.mk H
                      clear H
                      have p319 : 0 ≤ (x386_6 : Int) := of_decide_eq_true (by first | (with_reducible assumption) | assumption)
                      have q319 : x386_6 < (t264.length : Int) := of_decide_eq_true (by first | (with_reducible assumption) | assumption)
                      obtain ⟨ad319, e319, hx319_0⟩ := Kd.at_int (Kd.R_reads' HO_384.out).2.2 x386_6 p319 q319
                      cases e319
                      replace p319 := eq_true p319
                      replace q319 := eq_true q319
                      go_wp2
                      go_roundg k6
                      case measure => have := HJ5.out; have := HJ22.out; have := HJ152.out; have := HJ231.out; have := HK5.out; have := HK6.out; omega
                      case rel => exact ⟨(x47_6), (wrap64 (x386_6 + 1)), (by first | rfl | ((conv => lhs; whnf); first | rfl | (simp; done) | (simp [*]; done))), (by first | rfl | ((conv => lhs; whnf); first | rfl | (simp; done) | (simp [*]; done))), H', ⟨by have := HJ5.out; have := HJ22.out; have := HJ152.out; have := HJ231.out; have := HK5.out; have := HK6.out; omega⟩, ⟨by (with_reducible repeat (first | apply Kd.R_alloc | apply Kd.R_drewN | apply Kd.R_drew)); exact HO_11.out⟩, ⟨by (with_reducible repeat (first | apply Kd.R_alloc | apply Kd.R_drewN | apply Kd.R_drew)); exact HO_23.out⟩, ⟨by (with_reducible repeat (first | apply Kd.R_alloc | apply Kd.R_drewN | apply Kd.R_drew)); exact HO_377.out⟩, ⟨by (with_reducible repeat (first | apply Kd.R_alloc | apply Kd.R_drewN | apply Kd.R_drew)); exact HO_384.out⟩, ⟨by repeat (first | (with_reducible first | exact HB.out | apply below_alloc | apply pw_below_drewN | apply below_drew1) | exact HB.out)⟩⟩
                  · rw [if_neg c247] at H
                    exact absurd H (by simp)
                · rw [if_neg c246] at H
                  exact absurd H (by simp)
              · rw [if_neg c245] at H
                have c245b0 : decide (x386_6 < (t264.length : Int)) = false := decide_eq_false c245
                clear c245
                by_cases c249 : x47_6 = (rd t292 x379_5)
                · rw [if_pos c249] at H
                  have c249b0 : (x47_6 == (rd t292 x379_5)) = true := beq_iff_eq.mpr c249
                  have c249b1 : (x47_6 != (rd t292 x379_5)) = false := bne_eq_false_iff_eq.mpr c249
                  clear c249
                  have H' := Aside0.mk H
                  clear H
                  go_wp2
                  go_roundg k6
                  case measure => have := HJ5.out; have := HJ22.out; have := HJ152.out; have := HJ231.out; have := HK5.out; have := HK6.out; omega
                  case rel => exact ⟨(wrap64 (x379_5 + 1)), (by first | rfl | ((conv => lhs; whnf); first | rfl | (simp; done) | (simp [*]; done))), H', ⟨by have := HJ5.out; have := HJ22.out; have := HJ152.out; have := HJ231.out; have := HK5.out; have := HK6.out; omega⟩, ⟨by (with_reducible repeat (first | apply Kd.R_alloc | apply Kd.R_drewN | apply Kd.R_drew)); exact HO_11.out⟩, ⟨by (with_reducible repeat (first | apply Kd.R_alloc | apply Kd.R_drewN | apply Kd.R_drew)); exact HO_23.out⟩, ⟨by (with_reducible repeat (first | apply Kd.R_alloc | apply Kd.R_drewN | apply Kd.R_drew)); exact Kd.R_mono HO_377.out (fun _ hk => hk.1)⟩, ⟨by repeat (first | (with_reducible first | exact HB.out | apply below_alloc | apply pw_below_drewN | apply below_drew1) | exact HB.out)⟩⟩
                · rw [if_neg c249] at H
                  have c249b0 : (x47_6 == (rd t292 x379_5)) = false := beq_eq_false_iff_ne.mpr c249
                  have c249b1 : (x47_6 != (rd t292 x379_5)) = true := bne_iff_ne.mpr c249
                  obtain rfl := Option.some.inj H
                  go_wp2
                  go_ret
                  exact ⟨by first | rfl | (simp [errW_none, errW_some] <;> rfl) | (simp [*, errW_none, errW_some] <;> rfl), by repeat (first | (with_reducible first | exact HB.out | apply below_alloc | apply pw_below_drewN | apply below_drew1) | exact HB.out)⟩
        · rw [if_neg c244] at H
          exact absurd H (by simp)
      · rw [if_neg c243] at H
        exact absurd H (by simp)
    · rw [if_neg c242] at H
      have c242b0 : decide (x379_5 < (t292.length : Int)) = false := decide_eq_false c242
      clear c242
      have H' := Aside0.mk H
      clear H
      go_wp2
      refine Met.intro (hJ_ _ _ ?mg_ ?rel)
      case mg_ => kernel_rfl
      case rel => exact ⟨_, H', ⟨by have := HJ5.out; have := HJ22.out; have := HJ152.out; have := HJ231.out; have := HK5.out; first | omega | exact Nat.le_refl _⟩, ⟨by (with_reducible repeat (first | apply Kd.R_alloc | apply Kd.R_drewN | apply Kd.R_drew)); exact HO_23.out⟩, ⟨by repeat (first | (with_reducible first | exact HB.out | apply below_alloc | apply pw_below_drewN | apply below_drew1) | exact HB.out)⟩⟩

set_option maxHeartbeats 8000000 in
set_option maxRecDepth 100000 in
def laws_FnWaysLeadOfAll.c13 : PSigma fun P0_ : Prop => PSigma fun P1_ : Prop => Hole P0_ → Hole P1_ → laws_FnWaysLeadOfAll.c9.2.1 := by
  refine' ⟨_, _, fun HP0_ HP1_ => _⟩
  rotate_left 2
  intro k a0 a1 a2 A3 c3 l3 a4 r w HR3 HC3 _ _ _ _ kj5 HJ5 t264 t265 A11 t268 t269 A12 t272 t273 A13 t274 t275 A14 t276 t277 A15 t278 t279 A16 t280 t281 A17 t284 t285 A18 t288 t289 A19 t290 t291 A20 t292 t293 A21 t296 t297 A22 w24 v266 w25 v270 w26 _ w27 w28 w29 v282 w30 v286 w31 nd w32 v294 w33 v298 HO267 HO271 HO283 HO287 HO295 HO299 _ _ _ _ _ _ _ kj22 HJ22 _ _ HO_11 HO_23 HO_31 HB kj152 HJ152 HC229 _ _ f_ wc hcut
  clear HC229
  try clear c1
  try clear c2
  try clear p2
  try clear c3
  try clear p3
  try clear q3
  try clear hx3
  try clear qi3
  try clear c4
  try clear c5
  try clear c6
  try clear p6
  try clear c7
  try clear c7b0
  try clear c7b1
  try clear c8
  try clear c8b0
  try clear c8b1
  try clear c9
  try clear c9b0
  try clear c9b1
  try clear c10
  try clear c11
  try clear c12
  try clear c13
  try clear c14
  try clear c15
  try clear c16
  try clear c17
  try clear c19
  try clear c23
  try clear c24
  try clear p31
  try clear q31
  try clear hx31
  try clear qi31
  try clear c34
  try clear c34b0
  try clear c34b1
  try clear c34b2
  try clear c36
  try clear c37
  try clear c37b0
  try clear c37b1
  try clear c37b2
  try clear c40
  try clear c40b0
  try clear c40b1
  try clear c41
  try clear c41b0
  try clear c41b1
  try clear c41b2
  try clear c44
  try clear c44b0
  try clear c44b1
  try clear c45
  try clear c45b0
  try clear c45b1
  try clear c45b2
  try clear c49
  try clear c50
  try clear c50b0
  try clear c50b1
  try clear c50b2
  try clear c55
  try clear c55b0
  try clear c55b1
  try clear c56
  try clear c56b0
  try clear c56b1
  try clear c56b2
  try clear c62
  try clear c63
  try clear c64
  try clear c64b0
  try clear c64b1
  try clear c64b2
  try clear p64
  try clear c71
  try clear c71b0
  try clear c71b1
  try clear c71b2
  try clear c78
  try clear c78b0
  try clear c78b1
  try clear c78b2
  try clear c85
  try clear c85b0
  try clear c85b1
  try clear c85b2
  try clear c98
  try clear c98b0
  try clear c98b1
  try clear c98b2
  try clear c105
  try clear c105b0
  try clear c105b1
  try clear c105b2
  try clear c112
  try clear c112b0
  try clear c112b1
  try clear c112b2
  try clear c119
  try clear c119b0
  try clear c119b1
  try clear c119b2
  try clear c152
  try clear c154
  try clear c159
  try clear c160
  try clear c160b0
  try clear c160b1
  try clear c161
  try clear c161b0
  try clear c161b1
  try clear c161b2
  try clear c166
  try clear c168
  try clear c170
  try clear c170b0
  try clear c170b1
  try clear c171
  try clear c172
  try clear c172b0
  try clear c172b1
  try clear c173
  try clear c174
  try clear c174b0
  try clear c174b1
  try clear c230
  try clear c235
  try clear c236
  try clear c236b0
  try clear c236b1
  try clear c237
  try clear c237b0
  try clear c237b1
  try clear c238
  try clear c239
  try clear c239b0
  try clear c239b1
  try clear c240
  try clear c242
  try clear c242b0
  try clear c243
  try clear c243b0
  try clear c244
  try clear c244b0
  try clear c245
  try clear c245b0
  try clear c246
  try clear c246b0
  try clear c247
  try clear c247b0
  try clear c248
  try clear c248b0
  try clear c248b1
  try clear c249
  try clear c249b0
  try clear c249b1
  try clear hx317_0
  try clear hx318_0
  try clear hx319_0
  try clear p2
  try clear p3
  try clear p31
  try clear p317
  try clear p318
  try clear p319
  try clear p6
  try clear p64
  try clear q3
  try clear q31
  try clear q317
  try clear q318
  try clear q319
  obtain ⟨kq, HA, HJ228, HO_23, HB⟩ := hcut
  cases kq with
  | zero => exact absurd HA.out (by simp [laws_FnWaysLeadOfAll.j6])
  | succ kj228 =>
    have H := HA.out
    clear HA
    simp only [laws_FnWaysLeadOfAll.j6] at H
    have HC250 := Aside0.mk H
    clear H
    go_upto_if 400 with (fail)
    refine wp_cutF [o_,o_,o_,o_,o_,o_,o_,o_,o_,o_,i_,o_,o_,o_,o_,o_,o_,o_,o_,o_,o_,o_,o_,o_,o_,o_,o_,o_,o_,o_,o_,o_,o_,o_,o_,o_,o_,o_,o_,o_,o_,o_,o_,o_,o_,o_,o_,o_,o_,o_,i_,i_,i_,o_,o_,o_,o_,o_,o_,o_,o_,o_,o_,o_,o_,o_,o_,o_,o_,o_,o_,o_,o_,o_,o_,o_,o_,o_,o_,o_,o_,i_,i_,i_,i_,i_,i_,i_,i_,i_,i_,i_,i_,i_,i_,i_,i_,i_,i_,i_,i_,i_,i_,i_,i_,i_,i_,i_,i_,i_,i_,i_,i_,i_,i_,i_,i_,i_,i_,i_,i_,i_,i_,i_,i_,i_,i_,i_,i_,i_,i_,i_,i_,i_,i_,i_,i_,i_,i_,i_,i_,i_,i_,i_,i_,i_,i_,i_,i_,i_,i_,i_,i_,i_,i_,i_,i_,i_,i_,i_,i_,i_,i_,i_,i_,i_,i_,i_,i_,i_,i_,i_,i_,i_,i_,i_,i_,i_,i_,i_,i_,i_,i_,i_,i_,i_,i_,i_,i_,i_,i_,i_,i_,i_,i_,i_,i_,i_,i_,i_,i_,i_,i_,i_,i_,i_,i_,i_,i_,i_,i_,i_,i_,i_,i_,i_,i_,i_,i_,i_,i_,i_,i_,i_,i_,i_,i_,i_,i_,i_,i_,i_,i_,i_,i_,i_,i_,i_,i_,i_,i_,i_,i_,i_,i_,i_,i_,i_,i_,i_,i_,i_,i_,i_,i_,i_,i_,i_,i_,i_,i_,i_,i_,i_,i_,i_,i_,i_,i_,i_,i_,i_,i_,i_,i_,i_,i_,i_,i_,i_,i_,i_,i_,i_,i_,i_,i_,i_,i_,i_,i_,i_,i_,i_,i_,i_,i_,i_,i_,i_,i_,i_,i_,i_,i_,i_,i_,i_,i_,i_,i_,i_,i_,i_,i_,i_,i_,i_,i_,i_,i_,i_,i_,i_,i_,i_,i_,i_,i_,i_,i_,i_,i_,i_,i_,i_,i_,i_,i_,i_,i_,i_,i_,i_,i_,i_,i_,i_,i_,i_,i_,i_,i_,i_,i_,i_,i_,i_,i_,i_,i_,i_,i_,i_,i_,i_,i_,i_,i_,i_,i_,i_,i_,i_,i_,i_,i_,o_,o_,o_,i_,i_,i_,i_,o_,o_,o_,i_,i_,i_,i_,i_,i_,i_,i_,i_,i_,i_,i_,i_,i_,i_,i_,i_,i_,i_,i_,i_,i_,i_,i_,i_,i_,i_,i_,i_,i_,i_,i_,i_,i_,i_,i_,i_,i_,i_,i_,i_,i_,i_,i_,i_,i_,i_,i_,i_,i_,i_,i_,i_,i_,i_,i_,i_,i_,i_,i_,i_,i_,i_,i_,i_,i_,i_,i_,i_,i_,i_,i_,i_,i_,i_,i_,i_,i_,i_,i_,i_,i_,i_,i_,i_,i_,i_,i_,i_,i_,i_,i_,i_,i_,i_,i_,i_,i_,i_,i_,i_,i_,i_,i_,i_,i_,i_,i_,i_,i_,i_,i_,i_,i_,i_,i_,i_,i_,i_,i_,i_,i_,i_,i_,i_,i_,i_,i_,i_,i_,i_,i_,i_,i_,i_,i_,i_,i_,i_,i_,i_,i_,i_,i_,i_,i_,i_,i_,i_,i_,i_,i_,i_,i_,i_,i_,i_,i_,i_,i_,i_,i_,i_,i_,i_,i_,i_,i_,i_,i_,i_,i_,i_,i_,i_,i_,i_,i_,i_,i_,i_,i_,i_,i_,i_,i_,i_,i_,i_,i_,i_,i_,i_,i_,i_,i_,i_,i_,i_,i_,i_,i_,i_,i_,i_,i_,i_,i_,i_,i_,i_,i_,i_,i_,i_,i_,i_,i_,i_,i_,i_,i_,i_,i_,i_,i_,i_,i_,i_,i_,i_,i_,i_,i_,i_] (fun f_ wc => ∃ (kq : Nat), Aside0 (laws_FnWaysLeadOfAll.j10 kq a2 l3 a4 = some r) ∧ Aside0 (kq ≤ kj228) ∧ Aside0 (Below w.heap.size w wc)) ?rest ?first
    case first =>
      intro J_ K_ hJ_ hK_
      repeat revert ‹_›
      intro HP0_ HP1_
      exact HP0_.out
    case rest =>
      intro f_ wc hcut
      dsimp only [maskF] at hcut ⊢
      repeat revert ‹_›
      intro HP0_ HP1_
      exact HP1_.out

set_option maxHeartbeats 8000000 in
set_option maxRecDepth 100000 in
def laws_FnWaysLeadOfAll.c14 : PSigma fun P0_ : Prop => Hole P0_ → laws_FnWaysLeadOfAll.c13.1 := by
  refine' ⟨_, fun HP0_ => _⟩
  rotate_left 1
  intro k a0 a1 a2 A3 c3 l3 a4 r w HR3 HC3 _ _ _ _ kj5 HJ5 t264 t265 A11 t268 t269 A12 t272 t273 A13 t274 t275 A14 t276 t277 A15 t278 t279 A16 t280 t281 A17 t284 t285 A18 t288 t289 A19 t290 t291 A20 t292 t293 A21 t296 t297 A22 w24 v266 w25 v270 w26 _ w27 w28 w29 v282 w30 v286 w31 nd w32 v294 w33 v298 HO267 HO271 HO283 HO287 HO295 HO299 _ _ _ _ _ _ _ kj22 HJ22 _ _ HO_11 _ HO_31 _ kj152 HJ152 f_ wc HO_23 HB kj228 HJ228 HC250 _ _ J_ K_ hJ_ hK_
  have H := HC250.out
  clear HC250
  by_cases c251 : t281 = true
  · subst c251
    have H1 : (if (t280.length : Int) = (wrap64 (t272 + 1)) then (if 0 < (t280.length : Int) then (if (rdOf ByteArray.empty t280 0).toList = a0.toList then (if 0 ≤ t272 then (if t272 < (t280.length : Int) then (laws_FnWaysLeadOfAll.j7 kj228 a2 l3 a4 t280 ((rdOf ByteArray.empty t280 t272).toList != a1.toList)) else (none)) else (none)) else (laws_FnWaysLeadOfAll.j7 kj228 a2 l3 a4 t280 true)) else (none)) else (laws_FnWaysLeadOfAll.j7 kj228 a2 l3 a4 t280 true)) = some r := by rw [if_pos rfl] at H; exact H
    clear H
    have H := H1
    clear H1
    have HC252 := Aside0.mk H
    clear H
    go_upto_region 42 with (fail)
    refine wp_cutF [o_,o_,o_,o_,o_,o_,o_,o_,o_,o_,o_,o_,o_,o_,o_,o_,o_,o_,o_,o_,o_,o_,o_,o_,o_,o_,o_,o_,o_,o_,o_,o_,o_,o_,o_,o_,o_,o_,o_,o_,o_,o_,o_,o_,o_,o_,o_,o_,o_,o_,o_,o_,o_,o_,o_,o_,o_,o_,o_,o_,o_,o_,o_,o_,o_,o_,o_,o_,o_,o_,o_,o_,o_,o_,o_,o_,o_,o_,o_,o_,o_,i_,i_,i_,i_,i_,i_,i_,i_,i_,i_,i_,i_,i_,i_,i_,i_,i_,i_,i_,i_,i_,i_,i_,i_,i_,i_,i_,i_,i_,i_,i_,i_,i_,i_,i_,i_,i_,i_,i_,i_,i_,i_,i_,i_,i_,i_,i_,i_,i_,i_,i_,i_,i_,i_,i_,i_,i_,i_,i_,i_,i_,i_,i_,i_,i_,i_,i_,i_,i_,i_,i_,i_,i_,i_,i_,i_,i_,i_,i_,i_,i_,i_,i_,i_,i_,i_,i_,i_,i_,i_,i_,i_,i_,i_,i_,i_,i_,i_,i_,i_,i_,i_,i_,i_,i_,i_,i_,i_,i_,i_,i_,i_,i_,i_,i_,i_,i_,i_,i_,i_,i_,i_,i_,i_,i_,i_,i_,i_,i_,i_,i_,i_,i_,i_,i_,i_,i_,i_,i_,i_,i_,i_,i_,i_,i_,i_,i_,i_,i_,i_,i_,i_,i_,i_,i_,i_,i_,i_,i_,i_,i_,i_,i_,i_,i_,i_,i_,i_,i_,i_,i_,i_,i_,i_,i_,i_,i_,i_,i_,i_,i_,i_,i_,i_,i_,i_,i_,i_,i_,i_,i_,i_,i_,i_,i_,i_,i_,i_,i_,i_,i_,i_,i_,i_,i_,i_,i_,i_,i_,i_,i_,i_,i_,i_,i_,i_,i_,i_,i_,i_,i_,i_,i_,i_,i_,i_,i_,i_,i_,i_,i_,i_,i_,i_,i_,i_,i_,i_,i_,i_,i_,i_,i_,i_,i_,i_,i_,i_,i_,i_,i_,i_,i_,i_,i_,i_,i_,i_,i_,i_,i_,i_,i_,i_,i_,i_,i_,i_,i_,i_,i_,i_,i_,i_,i_,i_,i_,i_,i_,i_,i_,i_,i_,i_,i_,i_,i_,i_,i_,i_,i_,i_,i_,i_,i_,i_,o_,o_,o_,i_,i_,i_,i_,o_,o_,o_,i_,i_,i_,i_,i_,i_,i_,i_,i_,i_,i_,i_,i_,i_,i_,i_,i_,i_,i_,i_,i_,i_,i_,i_,i_,i_,i_,i_,i_,i_,i_,i_,i_,i_,i_,i_,i_,i_,i_,i_,i_,i_,i_,i_,i_,i_,i_,i_,i_,i_,i_,i_,i_,i_,i_,i_,i_,i_,i_,i_,i_,i_,i_,i_,i_,i_,i_,i_,i_,i_,i_,i_,i_,i_,i_,i_,i_,i_,i_,i_,i_,i_,i_,i_,i_,i_,i_,i_,i_,i_,i_,i_,i_,i_,i_,i_,i_,i_,i_,i_,i_,i_,i_,i_,i_,i_,i_,i_,i_,i_,i_,i_,i_,i_,i_,i_,i_,i_,i_,i_,i_,i_,i_,i_,i_,i_,i_,i_,i_,i_,i_,i_,i_,i_,i_,i_,i_,i_,i_,i_,i_,i_,i_,i_,i_,i_,i_,i_,i_,i_,i_,i_,i_,i_,i_,i_,i_,i_,i_,i_,i_,i_,i_,i_,i_,i_,i_,i_,i_,i_,i_,i_,i_,i_,i_,i_,i_,i_,i_,i_,i_,i_,i_,i_,i_,i_,i_,i_,i_,i_,i_,i_,i_,i_,i_,i_,i_,i_,i_,i_,i_,i_,i_,i_,i_,i_,i_,i_,i_,i_,i_,i_,i_,i_,i_,i_,i_,i_,i_,i_,i_,i_,i_,i_,i_,i_,i_,i_,i_,i_,i_,i_,i_,i_,i_] (fun f_ wc => ∃ (kq : Nat) (x420_251 : Bool), (f_ 420) = .bool x420_251 ∧ Aside0 (laws_FnWaysLeadOfAll.j7 kq a2 l3 a4 t280 x420_251 = some r) ∧ Aside0 (kq ≤ kj228) ∧ Aside0 (Kd.R Kd.string 9 wc w.heap.size (fun _ => True) v282 t280) ∧ Aside0 (Below w.heap.size w wc)) ?rest ?first
    case first =>
      intro J_ K_ hJ_ hK_
      have H := HC252.out
      clear HC252
      by_cases c253 : (t280.length : Int) = (wrap64 (t272 + 1))
      · rw [if_pos c253] at H
        have c253b0 : ((t280.length : Int) == (wrap64 (t272 + 1))) = true := beq_iff_eq.mpr c253
        have c253b1 : ((t280.length : Int) != (wrap64 (t272 + 1))) = false := bne_eq_false_iff_eq.mpr c253
        clear c253
        (first | rw [c253b0] | (simp only [i64_w, i32_w]; rw [c253b0]) | skip)
        by_cases c254 : 0 < (t280.length : Int)
        · rw [if_pos c254] at H
          have c254b0 : decide (0 < (t280.length : Int)) = true := decide_eq_true c254
          have c254b1 : decide (0 < t280.length) = true := decide_eq_true (by omega)
          clear c254
          by_cases c255 : (rdOf ByteArray.empty t280 0).toList = a0.toList
          · rw [if_pos c255] at H
            have c255b0 : ((rdOf ByteArray.empty t280 0).toList == a0.toList) = true := beq_iff_eq.mpr c255
            have c255b1 : ((rdOf ByteArray.empty t280 0).toList != a0.toList) = false := bne_eq_false_iff_eq.mpr c255
            clear c255
            by_cases c256 : 0 ≤ t272
            · rw [if_pos c256] at H
              have c256b0 : decide (0 ≤ t272) = true := decide_eq_true c256
              clear c256
              by_cases c257 : t272 < (t280.length : Int)
              · rw [if_pos c257] at H
                have c257b0 : decide (t272 < (t280.length : Int)) = true := decide_eq_true c257
                clear c257
                have H' := Aside0.mk H
                clear H
                obtain ⟨Ao258, co258, eo258⟩ := Kd.R_slice HO_23.out
                subst eo258
                have p320 : 0 ≤ (0 : Int) := (by omega)
                have q320 : 0 < (t280.length : Int) := of_decide_eq_true (by first | (with_reducible assumption) | assumption)
                obtain ⟨ad320, e320, hx320_0⟩ := Kd.at_string (Kd.R_reads' HO_23.out).2.2 0 p320 q320
                cases e320
                have qi320 : (0 < t280.length) = True := eq_true (by omega)
                (try rw [show ((0 : Int)).toNat = 0 from rfl] at hx320_0)
                (try rw [Addr.add_zero'] at hx320_0)
                replace p320 := eq_true p320
                replace q320 := eq_true q320
                have p321 : 0 ≤ (t272 : Int) := of_decide_eq_true (by first | (with_reducible assumption) | assumption)
                have q321 : t272 < (t280.length : Int) := of_decide_eq_true (by first | (with_reducible assumption) | assumption)
                obtain ⟨ad321, e321, hx321_0⟩ := Kd.at_string (Kd.R_reads' HO_23.out).2.2 t272 p321 q321
                obtain rfl : ad320 = ad321 := (by injection e321)
                replace p321 := eq_true p321
                replace q321 := eq_true q321
                go_wp2
                refine Met.intro (hJ_ _ _ ?mg_ ?rel)
                case mg_ => kernel_rfl
                case rel => exact ⟨_, (((rdOf ByteArray.empty t280 t272).toList != a1.toList)), (by first | rfl | ((conv => lhs; whnf); first | rfl | (simp; done) | (simp [*]; done))), H', ⟨by have := HJ5.out; have := HJ22.out; have := HJ152.out; have := HJ228.out; first | omega | exact Nat.le_refl _⟩, ⟨by (with_reducible repeat (first | apply Kd.R_alloc | apply Kd.R_drewN | apply Kd.R_drew)); exact HO_23.out⟩, ⟨by repeat (first | (with_reducible first | exact HB.out | apply below_alloc | apply pw_below_drewN | apply below_drew1) | exact HB.out)⟩⟩
              · rw [if_neg c257] at H
                exact absurd H (by simp)
            · rw [if_neg c256] at H
              exact absurd H (by simp)
          · rw [if_neg c255] at H
            have c255b0 : ((rdOf ByteArray.empty t280 0).toList == a0.toList) = false := beq_eq_false_iff_ne.mpr c255
            have c255b1 : ((rdOf ByteArray.empty t280 0).toList != a0.toList) = true := bne_iff_ne.mpr c255
            have H' := Aside0.mk H
            clear H
            obtain ⟨Ao259, co259, eo259⟩ := Kd.R_slice HO_23.out
            subst eo259
            have p320 : 0 ≤ (0 : Int) := (by omega)
            have q320 : 0 < (t280.length : Int) := of_decide_eq_true (by first | (with_reducible assumption) | assumption)
            obtain ⟨ad320, e320, hx320_0⟩ := Kd.at_string (Kd.R_reads' HO_23.out).2.2 0 p320 q320
            cases e320
            have qi320 : (0 < t280.length) = True := eq_true (by omega)
            (try rw [show ((0 : Int)).toNat = 0 from rfl] at hx320_0)
            (try rw [Addr.add_zero'] at hx320_0)
            replace p320 := eq_true p320
            replace q320 := eq_true q320
            go_wp2
            refine Met.intro (hJ_ _ _ ?mg_ ?rel)
            case mg_ => kernel_rfl
            case rel => exact ⟨_, (true), (by first | rfl | ((conv => lhs; whnf); first | rfl | (simp; done) | (simp [*]; done))), H', ⟨by have := HJ5.out; have := HJ22.out; have := HJ152.out; have := HJ228.out; first | omega | exact Nat.le_refl _⟩, ⟨by (with_reducible repeat (first | apply Kd.R_alloc | apply Kd.R_drewN | apply Kd.R_drew)); exact HO_23.out⟩, ⟨by repeat (first | (with_reducible first | exact HB.out | apply below_alloc | apply pw_below_drewN | apply below_drew1) | exact HB.out)⟩⟩
        · rw [if_neg c254] at H
          exact absurd H (by simp)
      · rw [if_neg c253] at H
        have c253b0 : ((t280.length : Int) == (wrap64 (t272 + 1))) = false := beq_eq_false_iff_ne.mpr c253
        have c253b1 : ((t280.length : Int) != (wrap64 (t272 + 1))) = true := bne_iff_ne.mpr c253
        (first | rw [c253b0] | (simp only [i64_w, i32_w]; rw [c253b0]) | skip)
        have H' := Aside0.mk H
        clear H
        obtain ⟨Ao260, co260, eo260⟩ := Kd.R_slice HO_23.out
        subst eo260
        go_wp2
        refine Met.intro (hJ_ _ _ ?mg_ ?rel)
        case mg_ => kernel_rfl
        case rel => exact ⟨_, (true), (by first | rfl | ((conv => lhs; whnf); first | rfl | (simp; done) | (simp [*]; done))), H', ⟨by have := HJ5.out; have := HJ22.out; have := HJ152.out; have := HJ228.out; first | omega | exact Nat.le_refl _⟩, ⟨by (with_reducible repeat (first | apply Kd.R_alloc | apply Kd.R_drewN | apply Kd.R_drew)); exact HO_23.out⟩, ⟨by repeat (first | (with_reducible first | exact HB.out | apply below_alloc | apply pw_below_drewN | apply below_drew1) | exact HB.out)⟩⟩
    case rest =>
      intro f_ wc hcut
      dsimp only [maskF] at hcut ⊢
      generalize f_ 420 = u420 at hcut ⊢
      repeat revert ‹_›
      intro HP0_
      exact HP0_.out
  · replace c251 := Bool.eq_false_iff.mpr c251
    subst c251
    have H1 : (laws_FnWaysLeadOfAll.j10 kj228 a2 l3 a4) = some r := by rw [if_neg (show ¬ (false = true) by decide)] at H; exact H
    clear H
    have H := H1
    clear H1
    have H' := Aside0.mk H
    clear H
    go_wp2
    refine Met.intro (hJ_ _ _ ?mg_ ?rel)
    case mg_ => kernel_rfl
    case rel => exact ⟨_, H', ⟨by have := HJ5.out; have := HJ22.out; have := HJ152.out; have := HJ228.out; first | omega | exact Nat.le_refl _⟩, ⟨by repeat (first | (with_reducible first | exact HB.out | apply below_alloc | apply pw_below_drewN | apply below_drew1) | exact HB.out)⟩⟩

set_option maxHeartbeats 8000000 in
set_option maxRecDepth 100000 in
def laws_FnWaysLeadOfAll.c15 : PSigma fun P0_ : Prop => Hole P0_ → laws_FnWaysLeadOfAll.c14.1 := by
  refine' ⟨_, fun HP0_ => _⟩
  rotate_left 1
  intro k a0 a1 a2 A3 c3 l3 a4 r w HR3 HC3 _ _ _ _ kj5 HJ5 t264 t265 A11 t268 t269 A12 t272 t273 A13 t274 t275 A14 t276 t277 A15 t278 t279 A16 t280 t284 t285 A18 t288 t289 A19 t290 t291 A20 t292 t293 A21 t296 t297 A22 w24 v266 w25 v270 w26 _ w27 w28 w29 v282 w30 v286 w31 nd w32 v294 w33 v298 HO267 HO271 HO283 HO287 HO295 HO299 _ _ _ _ _ _ _ kj22 HJ22 _ _ HO_11 _ HO_31 _ kj152 HJ152 _ _ HO_23 HB kj228 HJ228 _ _ J_ K_ hK_ A17 hJ_ HC252 _ _ _ _ f_ wc u420 hcut
  clear HC252
  try clear c1
  try clear c2
  try clear p2
  try clear c3
  try clear p3
  try clear q3
  try clear hx3
  try clear qi3
  try clear c4
  try clear c5
  try clear c6
  try clear p6
  try clear c7
  try clear c7b0
  try clear c7b1
  try clear c8
  try clear c8b0
  try clear c8b1
  try clear c9
  try clear c9b0
  try clear c9b1
  try clear c10
  try clear c11
  try clear c12
  try clear c13
  try clear c14
  try clear c15
  try clear c16
  try clear c17
  try clear c19
  try clear c23
  try clear c24
  try clear c25
  try clear p31
  try clear q31
  try clear hx31
  try clear qi31
  try clear p32
  try clear q32
  try clear hx32
  try clear qi32
  try clear c34
  try clear c34b0
  try clear c34b1
  try clear c34b2
  try clear c36
  try clear c37
  try clear c37b0
  try clear c37b1
  try clear c37b2
  try clear c40
  try clear c40b0
  try clear c40b1
  try clear c41
  try clear c41b0
  try clear c41b1
  try clear c41b2
  try clear c44
  try clear c44b0
  try clear c44b1
  try clear c45
  try clear c45b0
  try clear c45b1
  try clear c45b2
  try clear c49
  try clear c50
  try clear c50b0
  try clear c50b1
  try clear c50b2
  try clear c55
  try clear c55b0
  try clear c55b1
  try clear c56
  try clear c56b0
  try clear c56b1
  try clear c56b2
  try clear c62
  try clear c63
  try clear c64
  try clear c64b0
  try clear c64b1
  try clear c64b2
  try clear p64
  try clear c71
  try clear c71b0
  try clear c71b1
  try clear c71b2
  try clear c78
  try clear c78b0
  try clear c78b1
  try clear c78b2
  try clear c85
  try clear c85b0
  try clear c85b1
  try clear c85b2
  try clear c98
  try clear c98b0
  try clear c98b1
  try clear c98b2
  try clear c105
  try clear c105b0
  try clear c105b1
  try clear c105b2
  try clear c112
  try clear c112b0
  try clear c112b1
  try clear c112b2
  try clear c119
  try clear c119b0
  try clear c119b1
  try clear c119b2
  try clear c152
  try clear c154
  try clear c159
  try clear c160
  try clear c160b0
  try clear c160b1
  try clear c161
  try clear c161b0
  try clear c161b1
  try clear c161b2
  try clear c166
  try clear c168
  try clear c170
  try clear c170b0
  try clear c170b1
  try clear c171
  try clear c172
  try clear c172b0
  try clear c172b1
  try clear c173
  try clear c174
  try clear c174b0
  try clear c174b1
  try clear c230
  try clear c235
  try clear c236
  try clear c236b0
  try clear c236b1
  try clear c237
  try clear c237b0
  try clear c237b1
  try clear c238
  try clear c239
  try clear c239b0
  try clear c239b1
  try clear c240
  try clear c242
  try clear c242b0
  try clear c243
  try clear c243b0
  try clear c244
  try clear c244b0
  try clear c245
  try clear c245b0
  try clear c246
  try clear c246b0
  try clear c247
  try clear c247b0
  try clear c248
  try clear c248b0
  try clear c248b1
  try clear c249
  try clear c249b0
  try clear c249b1
  try clear c251
  try clear c253
  try clear c253b0
  try clear c253b1
  try clear c254
  try clear c254b0
  try clear c254b1
  try clear c255
  try clear c255b0
  try clear c255b1
  try clear c256
  try clear c256b0
  try clear c257
  try clear c257b0
  try clear hx317_0
  try clear hx318_0
  try clear hx319_0
  try clear hx320_0
  try clear hx321_0
  try clear p2
  try clear p3
  try clear p31
  try clear p317
  try clear p318
  try clear p319
  try clear p320
  try clear p321
  try clear p6
  try clear p64
  try clear q3
  try clear q31
  try clear q317
  try clear q318
  try clear q319
  try clear q320
  try clear q321
  obtain ⟨kq, x420_251, rfl, HA, HJ251, HO_23, HB⟩ := hcut
  cases kq with
  | zero => exact absurd HA.out (by simp [laws_FnWaysLeadOfAll.j7])
  | succ kj251 =>
    have H := HA.out
    clear HA
    simp only [laws_FnWaysLeadOfAll.j7] at H
    by_cases c261 : x420_251 = true
    · subst c261
      have H1 : (some false) = some r := by rw [if_pos rfl] at H; exact H
      clear H
      have H := H1
      clear H1
      obtain rfl := Option.some.inj H
      go_wp2
      go_ret
      exact ⟨by first | rfl | (simp [errW_none, errW_some] <;> rfl) | (simp [*, errW_none, errW_some] <;> rfl), by repeat (first | (with_reducible first | exact HB.out | apply below_alloc | apply pw_below_drewN | apply below_drew1) | exact HB.out)⟩
    · replace c261 := Bool.eq_false_iff.mpr c261
      subst c261
      have H1 : (laws_FnWaysLeadOfAll.l2 kj251 a2 l3 a4 t280 1) = some r := by rw [if_neg (show ¬ (false = true) by decide)] at H; exact H
      clear H
      have H := H1
      clear H1
      have H' := Aside0.mk H
      clear H
      go_wp2
      go_loopg [50] kj251 (fun kq v50 w' => ∃ (x50_6 : Int), v50 = .int .i64 x50_6 ∧ Aside0 (laws_FnWaysLeadOfAll.l2 kq a2 l3 a4 t280 x50_6 = some r) ∧ Aside0 (kq ≤ kj251) ∧ Aside0 (Kd.R Kd.string 9 w' w.heap.size (fun _ => True) v282 t280) ∧ Aside0 (Below w.heap.size w w'))
      case atStart => exact ⟨(1), (by first | rfl | (simp; done) | (simp [*]; done)), H', ⟨Nat.le_refl _⟩, ⟨by (with_reducible repeat (first | apply Kd.R_alloc | apply Kd.R_drewN | apply Kd.R_drew)); exact HO_23.out⟩, ⟨by repeat (first | (with_reducible first | exact HB.out | apply below_alloc | apply pw_below_drewN | apply below_drew1) | exact HB.out)⟩⟩
      case round =>
        repeat revert ‹_›
        intro HP0_
        exact HP0_.out

set_option maxHeartbeats 8000000 in
set_option maxRecDepth 100000 in
def laws_FnWaysLeadOfAll.c16 : PSigma fun P0_ : Prop => Hole P0_ → laws_FnWaysLeadOfAll.c15.1 := by
  refine' ⟨_, fun HP0_ => _⟩
  rotate_left 1
  intro k a0 a1 a2 A3 c3 l3 a4 r w HR3 HC3 _ _ _ _ kj5 HJ5 t264 t265 A11 t268 t269 A12 t272 t273 A13 t274 t275 A14 t276 t277 A15 t278 t279 A16 t280 t284 t285 A18 t288 t289 A19 t290 t291 A20 t292 t293 A21 t296 t297 A22 w24 v266 w25 v270 w26 _ w27 w28 w29 v282 w30 v286 w31 nd w32 v294 w33 v298 HO267 HO271 HO283 HO287 HO295 HO299 _ _ _ _ _ _ _ kj22 HJ22 _ _ HO_11 _ HO_31 _ kj152 HJ152 _ _ _ _ kj228 HJ228 _ _ J_ K_ hK_ A17 hJ_ f_ wc HO_23 HB kj251 HJ251 H' gk wr u10 u50 u51 u52 u421 u422 u423 u424 u425 u426 u427 u428 u429 u430 u431 u432 u433 u434 u435 u436 u437 u438 u439 u440 u441 u442 u443 u444 u445 u446 u447 u448 u449 hrel _ _ _ _
  clear H'
  try clear c1
  try clear c2
  try clear p2
  try clear c3
  try clear p3
  try clear q3
  try clear hx3
  try clear qi3
  try clear c4
  try clear c5
  try clear c6
  try clear p6
  try clear c7
  try clear c7b0
  try clear c7b1
  try clear c8
  try clear c8b0
  try clear c8b1
  try clear c9
  try clear c9b0
  try clear c9b1
  try clear c10
  try clear c11
  try clear c12
  try clear c13
  try clear c14
  try clear c15
  try clear c16
  try clear c17
  try clear c19
  try clear c23
  try clear c24
  try clear c25
  try clear c26
  try clear p31
  try clear q31
  try clear hx31
  try clear qi31
  try clear p32
  try clear q32
  try clear hx32
  try clear qi32
  try clear c34
  try clear c34b0
  try clear c34b1
  try clear c34b2
  try clear c36
  try clear c37
  try clear c37b0
  try clear c37b1
  try clear c37b2
  try clear c40
  try clear c40b0
  try clear c40b1
  try clear c41
  try clear c41b0
  try clear c41b1
  try clear c41b2
  try clear c44
  try clear c44b0
  try clear c44b1
  try clear c45
  try clear c45b0
  try clear c45b1
  try clear c45b2
  try clear c49
  try clear c50
  try clear c50b0
  try clear c50b1
  try clear c50b2
  try clear c55
  try clear c55b0
  try clear c55b1
  try clear c56
  try clear c56b0
  try clear c56b1
  try clear c56b2
  try clear c62
  try clear c63
  try clear c64
  try clear c64b0
  try clear c64b1
  try clear c64b2
  try clear p64
  try clear c71
  try clear c71b0
  try clear c71b1
  try clear c71b2
  try clear c78
  try clear c78b0
  try clear c78b1
  try clear c78b2
  try clear c85
  try clear c85b0
  try clear c85b1
  try clear c85b2
  try clear c98
  try clear c98b0
  try clear c98b1
  try clear c98b2
  try clear c105
  try clear c105b0
  try clear c105b1
  try clear c105b2
  try clear c112
  try clear c112b0
  try clear c112b1
  try clear c112b2
  try clear c119
  try clear c119b0
  try clear c119b1
  try clear c119b2
  try clear c152
  try clear c154
  try clear c159
  try clear c160
  try clear c160b0
  try clear c160b1
  try clear c161
  try clear c161b0
  try clear c161b1
  try clear c161b2
  try clear c166
  try clear c168
  try clear c170
  try clear c170b0
  try clear c170b1
  try clear c171
  try clear c172
  try clear c172b0
  try clear c172b1
  try clear c173
  try clear c174
  try clear c174b0
  try clear c174b1
  try clear c230
  try clear c235
  try clear c236
  try clear c236b0
  try clear c236b1
  try clear c237
  try clear c237b0
  try clear c237b1
  try clear c238
  try clear c239
  try clear c239b0
  try clear c239b1
  try clear c240
  try clear c242
  try clear c242b0
  try clear c243
  try clear c243b0
  try clear c244
  try clear c244b0
  try clear c245
  try clear c245b0
  try clear c246
  try clear c246b0
  try clear c247
  try clear c247b0
  try clear c248
  try clear c248b0
  try clear c248b1
  try clear c249
  try clear c249b0
  try clear c249b1
  try clear c251
  try clear c253
  try clear c253b0
  try clear c253b1
  try clear c254
  try clear c254b0
  try clear c254b1
  try clear c255
  try clear c255b0
  try clear c255b1
  try clear c256
  try clear c256b0
  try clear c257
  try clear c257b0
  try clear c261
  try clear hx317_0
  try clear hx318_0
  try clear hx319_0
  try clear hx320_0
  try clear hx321_0
  try clear p2
  try clear p3
  try clear p31
  try clear p317
  try clear p318
  try clear p319
  try clear p32
  try clear p320
  try clear p321
  try clear p6
  try clear p64
  try clear q3
  try clear q31
  try clear q317
  try clear q318
  try clear q319
  try clear q32
  try clear q320
  try clear q321
  obtain ⟨x50_6, rfl, HA, HK6, HO_23, HB⟩ := hrel
  cases gk with
  | zero => exact absurd HA.out (by simp [laws_FnWaysLeadOfAll.l2])
  | succ k6 =>
    have H := HA.out
    clear HA
    simp only [laws_FnWaysLeadOfAll.l2] at H
    have HC262 := Aside0.mk H
    clear H
    go_upto_region 45 with (fail)
    refine wp_cutF [o_,o_,o_,o_,o_,o_,o_,o_,o_,o_,o_,o_,o_,o_,o_,o_,o_,o_,o_,o_,o_,o_,o_,o_,o_,o_,o_,o_,o_,o_,o_,o_,o_,o_,o_,o_,o_,o_,o_,o_,o_,o_,o_,o_,o_,o_,o_,o_,o_,o_,o_,o_,o_,o_,o_,o_,o_,o_,o_,o_,o_,o_,o_,o_,o_,o_,o_,o_,o_,o_,o_,o_,o_,o_,o_,o_,o_,o_,o_,o_,o_,o_,o_,o_,o_,o_,o_,o_,o_,o_,o_,o_,o_,o_,o_,o_,o_,o_,o_,o_,o_,o_,o_,o_,o_,o_,o_,o_,o_,o_,o_,o_,o_,o_,o_,o_,o_,o_,o_,o_,o_,o_,o_,o_,o_,o_,o_,o_,o_,o_,o_,o_,o_,o_,o_,o_,o_,o_,o_,o_,o_,o_,o_,o_,o_,o_,o_,o_,o_,o_,o_,o_,o_,o_,o_,o_,o_,o_,o_,o_,o_,o_,o_,o_,o_,o_,o_,o_,o_,o_,o_,o_,o_,o_,o_,o_,o_,o_,o_,o_,o_,o_,o_,o_,o_,o_,o_,o_,o_,o_,o_,o_,o_,o_,o_,o_,o_,o_,o_,o_,o_,o_,o_,o_,o_,o_,o_,o_,o_,o_,o_,o_,o_,o_,o_,o_,o_,o_,o_,o_,o_,o_,o_,o_,o_,o_,o_,o_,o_,o_,o_,o_,o_,o_,o_,o_,o_,o_,o_,o_,o_,o_,o_,o_,o_,o_,o_,o_,o_,o_,o_,o_,o_,o_,o_,o_,o_,o_,o_,o_,o_,o_,o_,o_,o_,o_,o_,o_,o_,o_,o_,o_,o_,o_,o_,o_,o_,o_,o_,o_,o_,o_,o_,o_,o_,o_,o_,o_,o_,o_,o_,o_,o_,o_,o_,o_,o_,o_,o_,o_,o_,o_,o_,o_,o_,o_,o_,o_,o_,o_,o_,o_,o_,o_,o_,o_,o_,o_,o_,o_,o_,o_,o_,o_,o_,o_,o_,o_,o_,o_,o_,o_,o_,o_,o_,o_,o_,o_,o_,o_,o_,o_,o_,o_,o_,o_,o_,o_,o_,o_,o_,o_,o_,o_,o_,o_,o_,o_,o_,o_,o_,o_,o_,o_,o_,o_,o_,o_,o_,o_,o_,o_,o_,o_,o_,o_,o_,o_,o_,o_,o_,o_,o_,o_,o_,o_,o_,o_,o_,o_,o_,o_,o_,o_,o_,o_,o_,o_,o_,o_,o_,o_,o_,o_,o_,o_,o_,o_,o_,o_,o_,o_,o_,o_,o_,o_,o_,o_,o_,o_,o_,i_,i_,i_,i_,i_,i_,i_,i_,i_,i_,i_,i_,i_,i_,i_,i_,i_,i_,i_,i_,i_,i_,i_,i_,i_,i_,i_,i_,i_] (fun f_ wc => ∃ (kq : Nat) (x428_261 : Bool), (f_ 428) = .bool x428_261 ∧ Aside0 (laws_FnWaysLeadOfAll.j9 kq a2 l3 a4 t280 x50_6 x428_261 = some r) ∧ Aside0 (kq ≤ k6) ∧ Aside0 (Kd.R Kd.string 9 wc w.heap.size (fun _ => True) v282 t280) ∧ Aside0 (Below w.heap.size w wc)) ?rest ?first
    case first =>
      intro J_ K_ hJ_ hK_
      have H := HC262.out
      clear HC262
      by_cases c263 : x50_6 < (t280.length : Int)
      · rw [if_pos c263] at H
        have c263b0 : decide (x50_6 < (t280.length : Int)) = true := decide_eq_true c263
        clear c263
        (first | rw [c263b0] | (simp only [i64_w, i32_w]; rw [c263b0]) | skip)
        have H' := Aside0.mk H
        clear H
        obtain ⟨Ao264, co264, eo264⟩ := Kd.R_slice HO_23.out
        subst eo264
        go_wp2
        refine Met.intro (hJ_ _ _ ?mg_ ?rel)
        case mg_ => kernel_rfl
        case rel => exact ⟨_, (decide (x50_6 < 100)), (by first | rfl | ((conv => lhs; whnf); first | rfl | (simp; done) | (simp [*]; done))), H', ⟨by have := HJ5.out; have := HJ22.out; have := HJ152.out; have := HJ228.out; have := HJ251.out; have := HK6.out; first | omega | exact Nat.le_refl _⟩, ⟨by (with_reducible repeat (first | apply Kd.R_alloc | apply Kd.R_drewN | apply Kd.R_drew)); exact HO_23.out⟩, ⟨by repeat (first | (with_reducible first | exact HB.out | apply below_alloc | apply pw_below_drewN | apply below_drew1) | exact HB.out)⟩⟩
      · rw [if_neg c263] at H
        have c263b0 : decide (x50_6 < (t280.length : Int)) = false := decide_eq_false c263
        clear c263
        (first | rw [c263b0] | (simp only [i64_w, i32_w]; rw [c263b0]) | skip)
        have H' := Aside0.mk H
        clear H
        obtain ⟨Ao265, co265, eo265⟩ := Kd.R_slice HO_23.out
        subst eo265
        go_wp2
        refine Met.intro (hJ_ _ _ ?mg_ ?rel)
        case mg_ => kernel_rfl
        case rel => exact ⟨_, (false), (by first | rfl | ((conv => lhs; whnf); first | rfl | (simp; done) | (simp [*]; done))), H', ⟨by have := HJ5.out; have := HJ22.out; have := HJ152.out; have := HJ228.out; have := HJ251.out; have := HK6.out; first | omega | exact Nat.le_refl _⟩, ⟨by (with_reducible repeat (first | apply Kd.R_alloc | apply Kd.R_drewN | apply Kd.R_drew)); exact HO_23.out⟩, ⟨by repeat (first | (with_reducible first | exact HB.out | apply below_alloc | apply pw_below_drewN | apply below_drew1) | exact HB.out)⟩⟩
    case rest =>
      intro f_ wc hcut
      dsimp only [maskF] at hcut ⊢
      generalize f_ 428 = u428 at hcut ⊢
      repeat revert ‹_›
      intro HP0_
      exact HP0_.out

set_option maxHeartbeats 8000000 in
set_option maxRecDepth 100000 in
theorem laws_FnWaysLeadOfAll.c17 : laws_FnWaysLeadOfAll.c16.1 := by
  intro k a0 a1 a2 A3 c3 l3 a4 r w HR3 HC3 _ _ _ _ kj5 HJ5 t264 t265 A11 t268 t269 A12 t272 t273 A13 t274 t275 A14 t276 t277 A15 t278 t279 A16 t280 t284 t285 A18 t288 t289 A19 t290 t291 A20 t292 t293 A21 t296 t297 A22 w24 v266 w25 v270 w26 _ w27 w28 w29 v282 w30 v286 w31 nd w32 v294 w33 v298 HO267 HO271 HO283 HO287 HO295 HO299 _ _ _ _ _ _ _ kj22 HJ22 _ _ HO_11 _ HO_31 _ kj152 HJ152 _ _ _ _ kj228 HJ228 _ _ J_ K_ hK_ A17 hJ_ _ _ _ _ kj251 HJ251 wr u10 u51 u52 u421 u422 u423 u424 u425 u426 u427 _ u429 u430 u431 u432 u433 u434 u435 u436 u437 u438 u439 u440 u441 u442 u443 u444 u445 u446 u447 u448 u449 _ _ _ x50_6 HO_23 HB k6 _ HK6 HC262 _ _ _ _ f_ wc u428 hcut
  clear HC262
  try clear c1
  try clear c2
  try clear p2
  try clear c3
  try clear p3
  try clear q3
  try clear hx3
  try clear qi3
  try clear c4
  try clear c5
  try clear c6
  try clear p6
  try clear c7
  try clear c7b0
  try clear c7b1
  try clear c8
  try clear c8b0
  try clear c8b1
  try clear c9
  try clear c9b0
  try clear c9b1
  try clear c10
  try clear c11
  try clear c12
  try clear c13
  try clear c14
  try clear c15
  try clear c16
  try clear c17
  try clear c19
  try clear c23
  try clear c24
  try clear c25
  try clear c26
  try clear p31
  try clear q31
  try clear hx31
  try clear qi31
  try clear p32
  try clear q32
  try clear hx32
  try clear qi32
  try clear c34
  try clear c34b0
  try clear c34b1
  try clear c34b2
  try clear c36
  try clear c37
  try clear c37b0
  try clear c37b1
  try clear c37b2
  try clear c40
  try clear c40b0
  try clear c40b1
  try clear c41
  try clear c41b0
  try clear c41b1
  try clear c41b2
  try clear c44
  try clear c44b0
  try clear c44b1
  try clear c45
  try clear c45b0
  try clear c45b1
  try clear c45b2
  try clear c49
  try clear c50
  try clear c50b0
  try clear c50b1
  try clear c50b2
  try clear c55
  try clear c55b0
  try clear c55b1
  try clear c56
  try clear c56b0
  try clear c56b1
  try clear c56b2
  try clear c62
  try clear c63
  try clear c64
  try clear c64b0
  try clear c64b1
  try clear c64b2
  try clear p64
  try clear c71
  try clear c71b0
  try clear c71b1
  try clear c71b2
  try clear c78
  try clear c78b0
  try clear c78b1
  try clear c78b2
  try clear c85
  try clear c85b0
  try clear c85b1
  try clear c85b2
  try clear c98
  try clear c98b0
  try clear c98b1
  try clear c98b2
  try clear c105
  try clear c105b0
  try clear c105b1
  try clear c105b2
  try clear c112
  try clear c112b0
  try clear c112b1
  try clear c112b2
  try clear c119
  try clear c119b0
  try clear c119b1
  try clear c119b2
  try clear c152
  try clear c154
  try clear c159
  try clear c160
  try clear c160b0
  try clear c160b1
  try clear c161
  try clear c161b0
  try clear c161b1
  try clear c161b2
  try clear c166
  try clear c168
  try clear c170
  try clear c170b0
  try clear c170b1
  try clear c171
  try clear c172
  try clear c172b0
  try clear c172b1
  try clear c173
  try clear c174
  try clear c174b0
  try clear c174b1
  try clear c230
  try clear c235
  try clear c236
  try clear c236b0
  try clear c236b1
  try clear c237
  try clear c237b0
  try clear c237b1
  try clear c238
  try clear c239
  try clear c239b0
  try clear c239b1
  try clear c240
  try clear c242
  try clear c242b0
  try clear c243
  try clear c243b0
  try clear c244
  try clear c244b0
  try clear c245
  try clear c245b0
  try clear c246
  try clear c246b0
  try clear c247
  try clear c247b0
  try clear c248
  try clear c248b0
  try clear c248b1
  try clear c249
  try clear c249b0
  try clear c249b1
  try clear c251
  try clear c253
  try clear c253b0
  try clear c253b1
  try clear c254
  try clear c254b0
  try clear c254b1
  try clear c255
  try clear c255b0
  try clear c255b1
  try clear c256
  try clear c256b0
  try clear c257
  try clear c257b0
  try clear c261
  try clear c263
  try clear c263b0
  try clear hx317_0
  try clear hx318_0
  try clear hx319_0
  try clear hx320_0
  try clear hx321_0
  try clear p2
  try clear p3
  try clear p31
  try clear p317
  try clear p318
  try clear p319
  try clear p32
  try clear p320
  try clear p321
  try clear p6
  try clear p64
  try clear q3
  try clear q31
  try clear q317
  try clear q318
  try clear q319
  try clear q32
  try clear q320
  try clear q321
  obtain ⟨kq, x428_261, rfl, HA, HJ261, HO_23, HB⟩ := hcut
  cases kq with
  | zero => exact absurd HA.out (by simp [laws_FnWaysLeadOfAll.j9])
  | succ kj261 =>
    have H := HA.out
    clear HA
    simp only [laws_FnWaysLeadOfAll.j9] at H
    by_cases c266 : x428_261 = true
    · subst c266
      have H1 : (if 0 ≤ (wrap64 (x50_6 - 1)) then (if (wrap64 (x50_6 - 1)) < (t280.length : Int) then (if 0 ≤ x50_6 then (if x50_6 < (t280.length : Int) then ((impl_FewestMoves.f kj261 (rdOf ByteArray.empty t280 (wrap64 (x50_6 - 1))) (rdOf ByteArray.empty t280 x50_6)).bind fun bt324 => (if bt324.2 = true then (if bt324.1 = 1 then (laws_FnWaysLeadOfAll.l2 kj261 a2 l3 a4 t280 (wrap64 (x50_6 + 1))) else (some false)) else (some false))) else (none)) else (none)) else (none)) else (none)) = some r := by rw [if_pos rfl] at H; exact H
      clear H
      have H := H1
      clear H1
      obtain ⟨ji267, hji267⟩ : ∃ j_ : Int, (wrap64 (x50_6 - 1)) = j_ := ⟨_, rfl⟩
      replace H : (if 0 ≤ (ji267) then (if (ji267) < (t280.length : Int) then (if 0 ≤ x50_6 then (if x50_6 < (t280.length : Int) then ((impl_FewestMoves.f kj261 (rdOf ByteArray.empty t280 (ji267)) (rdOf ByteArray.empty t280 x50_6)).bind fun bt324 => (if bt324.2 = true then (if bt324.1 = 1 then (laws_FnWaysLeadOfAll.l2 kj261 a2 l3 a4 t280 (wrap64 (x50_6 + 1))) else (some false)) else (some false))) else (none)) else (none)) else (none)) else (none)) = some r := by first | (rw [hji267] at H; exact H) | (simp only [hji267] at H ⊢; exact H)
      have hji267w : (IntKind.i64.wrap (x50_6 - 1)) = ji267 := (i64_w _).trans hji267
      by_cases c268 : 0 ≤ (ji267)
      · rw [if_pos c268] at H
        have c268b0 : decide (0 ≤ (ji267)) = true := decide_eq_true c268
        clear c268
        by_cases c269 : (ji267) < (t280.length : Int)
        · rw [if_pos c269] at H
          have c269b0 : decide ((ji267) < (t280.length : Int)) = true := decide_eq_true c269
          clear c269
          by_cases c270 : 0 ≤ x50_6
          · rw [if_pos c270] at H
            have c270b0 : decide (0 ≤ x50_6) = true := decide_eq_true c270
            clear c270
            by_cases c271 : x50_6 < (t280.length : Int)
            · rw [if_pos c271] at H
              have c271b0 : decide (x50_6 < (t280.length : Int)) = true := decide_eq_true c271
              clear c271
              replace H := Option.bind_eq_some_iff.mp H
              obtain ⟨⟨t324, t325⟩, A2720, H⟩ := H
              replace H : (if t325 = true then (if t324 = 1 then (laws_FnWaysLeadOfAll.l2 kj261 a2 l3 a4 t280 (wrap64 (x50_6 + 1))) else (some false)) else (some false)) = some r := H
              have A272 := Aside0.mk A2720
              clear A2720
              by_cases c273 : t325 = true
              · subst c273
                have H1 : (if t324 = 1 then (laws_FnWaysLeadOfAll.l2 kj261 a2 l3 a4 t280 (wrap64 (x50_6 + 1))) else (some false)) = some r := by rw [if_pos rfl] at H; exact H
                clear H
                have H := H1
                clear H1
                by_cases c274 : t324 = 1
                · rw [if_pos c274] at H
                  have c274b0 : (t324 == 1) = true := beq_iff_eq.mpr c274
                  have c274b1 : (t324 != 1) = false := bne_eq_false_iff_eq.mpr c274
                  clear c274
                  have H' := Aside0.mk H
                  clear H
                  try go_wp2
                  have n0_ := Aside0.mk (Kd.R_drew HO_23.out)
                  have n1_ := Aside0.mk (below_drew1 HB.out)
                  clear HO_23
                  clear HB
                  have HO_23 := n0_
                  have HB := n1_
                  clear n0_ n1_
                  obtain ⟨Ao276, co276, eo276⟩ := Kd.R_slice HO_23.out
                  (first | subst eo276 | (injection eo276 with f1_ f2_ f3_; have f4_ := f1_.symm; have f5_ := f3_.symm; clear f1_ f2_ f3_; subst f4_; subst f5_))
                  have p322 : 0 ≤ ((ji267) : Int) := of_decide_eq_true (by first | (with_reducible assumption) | assumption)
                  have q322 : (ji267) < (t280.length : Int) := of_decide_eq_true (by first | (with_reducible assumption) | assumption)
                  obtain ⟨ad322, e322, hx322_0⟩ := Kd.at_string (Kd.R_reads' HO_23.out).2.2 (ji267) p322 q322
                  cases e322
                  replace p322 := eq_true p322
                  replace q322 := eq_true q322
                  have p323 : 0 ≤ (x50_6 : Int) := of_decide_eq_true (by first | (with_reducible assumption) | assumption)
                  have q323 : x50_6 < (t280.length : Int) := of_decide_eq_true (by first | (with_reducible assumption) | assumption)
                  obtain ⟨ad323, e323, hx323_0⟩ := Kd.at_string (Kd.R_reads' HO_23.out).2.2 x50_6 p323 q323
                  obtain rfl : ad322 = ad323 := (by injection e323)
                  replace p323 := eq_true p323
                  replace q323 := eq_true q323
                  refine start_ (n := 15) (S := fun w' => w'.cell? (ad322.add ((ji267)).toNat) = some (.string (rdOf ByteArray.empty t280 (ji267))) ∧ w'.cell? (ad322.add (x50_6).toNat) = some (.string (rdOf ByteArray.empty t280 x50_6))) (ds := []) #[false, false, false, false, false, false, false, false, false, false, false, false, false, false, false] (by kernel_rfl) rfl rfl ⟨hx322_0, hx323_0⟩ (fun hHeld => ?_); refine with_tabW laws_FnWaysLeadOfAll.tab47 laws_FnWaysLeadOfAll.bits47 (fun HT_ HW_ => ?_)
                  generalize wc.drew = w275 at HO_23 HB hx322_0 hx323_0 hHeld ⊢
                  refine pure_ (i := 0) (N := some 432) (v := ?_) (a' := ?_) #[true, false, false, false, false, false, false, false, false, false, false, false, false, false, false] rfl rfl (any_of HT_.out (by kernel_rfl)) (fun _ _ _ h => h) (Or.inl ⟨by rfl, ?_⟩) ?_ ?_
                  rotate_left
                  · intro w'
                    go_simp
                    with_reducible rfl
                  rotate_left
                  · simp only [Act.put, List.setIfInBounds_toArray, List.set_cons_zero, List.set_cons_succ, i64_w, i32_w]
                    rfl
                  refine pure_ (i := 1) (N := some 433) (v := ?_) (a' := ?_) #[true, true, false, false, false, false, false, false, false, false, false, false, false, false, false] rfl rfl (any_of HT_.out (by kernel_rfl)) (fun _ _ _ h => h) (Or.inl ⟨by rfl, ?_⟩) ?_ ?_
                  rotate_left
                  · intro w'
                    go_simp
                    with_reducible rfl
                  rotate_left
                  · simp only [Act.put, List.setIfInBounds_toArray, List.set_cons_zero, List.set_cons_succ, i64_w, i32_w]
                    rfl
                  refine pure_ (i := 2) (N := some 434) (v := ?_) (a' := ?_) #[true, true, true, false, false, false, false, false, false, false, false, false, false, false, false] rfl rfl (any_of HT_.out (by kernel_rfl)) (fun _ _ _ h => h) (Or.inl ⟨by rfl, ?_⟩) ?_ ?_
                  rotate_left
                  · intro w'
                    go_simp
                    with_reducible rfl
                  rotate_left
                  · simp only [Act.put, List.setIfInBounds_toArray, List.set_cons_zero, List.set_cons_succ, i64_w, i32_w]
                    rfl
                  refine pure_ (i := 3) (N := some 435) (v := ?_) (a' := ?_) #[true, true, true, true, false, false, false, false, false, false, false, false, false, false, false] rfl rfl (any_of HT_.out (by kernel_rfl)) (fun _ _ _ h => h) (Or.inl ⟨by rfl, ?_⟩) ?_ ?_
                  rotate_left
                  · intro w'
                    go_simp
                    with_reducible rfl
                  rotate_left
                  · simp only [Act.put, List.setIfInBounds_toArray, List.set_cons_zero, List.set_cons_succ, i64_w, i32_w]
                    rfl
                  refine pure_ (i := 5) (N := some 437) (v := ?_) (a' := ?_) #[true, true, true, true, false, true, false, false, false, false, false, false, false, false, false] rfl rfl (any_of HT_.out (by kernel_rfl)) (fun _ _ _ h => h) (Or.inl ⟨by rfl, ?_⟩) ?_ ?_
                  rotate_left
                  · intro w'
                    go_simp
                    with_reducible rfl
                  rotate_left
                  · simp only [Act.put, List.setIfInBounds_toArray, List.set_cons_zero, List.set_cons_succ, i64_w, i32_w]
                    rfl
                  refine pure_ (i := 6) (N := some 438) (v := ?_) (a' := ?_) #[true, true, true, true, false, true, true, false, false, false, false, false, false, false, false] rfl rfl (any_of HT_.out (by kernel_rfl)) (fun _ _ _ h => h) (Or.inl ⟨by rfl, ?_⟩) ?_ ?_
                  rotate_left
                  · intro w'
                    go_simp
                    with_reducible rfl
                  rotate_left
                  · simp only [Act.put, List.setIfInBounds_toArray, List.set_cons_zero, List.set_cons_succ, i64_w, i32_w]
                    rfl
                  refine pure_ (i := 7) (N := some 439) (v := ?_) (a' := ?_) #[true, true, true, true, false, true, true, true, false, false, false, false, false, false, false] rfl rfl (any_of HT_.out (by kernel_rfl)) (fun _ _ _ h => h) (Or.inl ⟨by rfl, ?_⟩) ?_ ?_
                  rotate_left
                  · intro w'
                    go_simp
                    with_reducible rfl
                  rotate_left
                  · simp only [Act.put, List.setIfInBounds_toArray, List.set_cons_zero, List.set_cons_succ, i64_w, i32_w]
                    rfl
                  refine take_ (i := 4) (N := some 436) (v := ?_) (a' := ?_) #[true, true, true, true, true, true, true, true, false, false, false, false, false, false, false] rfl rfl (take_ofW HT_.out HW_.out (by kernel_rfl)) (fun _ _ _ h => h) (Or.inl ⟨by rfl, ?_⟩) hHeld ?_ ?_
                  rotate_left
                  · rintro w' ⟨s0, s1⟩
                    go_simp
                    with_reducible rfl
                  rotate_left
                  · simp only [Act.put, List.setIfInBounds_toArray, List.set_cons_zero, List.set_cons_succ, i64_w, i32_w]
                    rfl
                  refine take_ (i := 8) (N := some 440) (v := ?_) (a' := ?_) #[true, true, true, true, true, true, true, true, true, false, false, false, false, false, false] rfl rfl (take_ofW HT_.out HW_.out (by kernel_rfl)) (fun _ _ _ h => h) (Or.inl ⟨by rfl, ?_⟩) hHeld ?_ ?_
                  rotate_left
                  · rintro w' ⟨s0, s1⟩
                    go_simp
                    with_reducible rfl
                  rotate_left
                  · simp only [Act.put, List.setIfInBounds_toArray, List.set_cons_zero, List.set_cons_succ, i64_w, i32_w]
                    rfl
                  refine one_ (i := 9) (N := some 441) #[true, true, true, true, true, true, true, true, true, true, false, false, false, false, false] rfl rfl (one_of HT_.out (by kernel_rfl)) (by decide) (fun K hK => ?_)
                  refine goes_ Tryd.func6 (by kernel_rfl) rfl #[.string (rdOf ByteArray.empty t280 (ji267)), .string (rdOf ByteArray.empty t280 x50_6)] (by rfl) rfl rfl (by (try simp only [List.map_toArray, List.map_cons, List.map_nil]); first | done | (simp only [hji267]; rfl) | rfl | (simp only [List.length_drop, List.length_take]; rfl)) ?_
                  with_reducible refine (impl_FewestMoves.calls kj261 (rdOf ByteArray.empty t280 (ji267)) (rdOf ByteArray.empty t280 x50_6) t324 true _ A272.out).mono ?_
                  rintro e w277 ⟨rfl, hb⟩
                  have HS0_ := (hb.cell (World.block_lt_of_cell? _ _ (hHeld.1))).trans (hHeld.1)
                  have HS1_ := (hb.cell (World.block_lt_of_cell? _ _ (hHeld.2))).trans (hHeld.2)
                  refine ⟨_, rfl, ?_⟩
                  have n0_ := Aside0.mk (Kd.R_below (by (with_reducible repeat (first | apply Kd.R_alloc | apply Kd.R_drewN | apply Kd.R_drew)); exact HO_23.out) hb)
                  have n1_ := Aside0.mk (below_step (by repeat (first | (with_reducible first | exact HB.out | apply below_alloc | apply pw_below_drewN | apply below_drew1) | exact HB.out)) hb)
                  clear HO_23
                  clear HB
                  have HO_23 := n0_
                  have HB := n1_
                  clear n0_ n1_
                  (try clear hb)
                  (try clear hb2)
                  (try clear hk)
                  (try clear hi)
                  refine hK.out _ _ ⟨HS0_, HS1_⟩ (fun hHeld => ?_)
                  clear hK K
                  refine norm_ (a' := ?_) ?_ ?_
                  rotate_left
                  · show Act.put _ (some 441) _ = _
                    simp only [Act.put, List.setIfInBounds_toArray, List.set_cons_zero, List.set_cons_succ, i64_w, i32_w]
                    rfl
                  refine pure_ (i := 10) (N := some 431) (v := ?_) (a' := ?_) #[true, true, true, true, true, true, true, true, true, true, true, false, false, false, false] rfl rfl (any_of HT_.out (by kernel_rfl)) (fun _ _ _ h => h) (Or.inl ⟨by rfl, ?_⟩) ?_ ?_
                  rotate_left
                  · intro w'
                    go_simp
                    with_reducible rfl
                  rotate_left
                  · simp only [Act.put, List.setIfInBounds_toArray, List.set_cons_zero, List.set_cons_succ, i64_w, i32_w]
                    rfl
                  refine pure_ (i := 11) (N := some 442) (v := ?_) (a' := ?_) #[true, true, true, true, true, true, true, true, true, true, true, true, false, false, false] rfl rfl (any_of HT_.out (by kernel_rfl)) (fun _ _ _ h => h) (Or.inl ⟨by rfl, ?_⟩) ?_ ?_
                  rotate_left
                  · intro w'
                    go_simp
                    with_reducible rfl
                  rotate_left
                  · simp only [Act.put, List.setIfInBounds_toArray, List.set_cons_zero, List.set_cons_succ, i64_w, i32_w]
                    rfl
                  refine pure_ (i := 12) (N := some 443) (v := ?_) (a' := ?_) #[true, true, true, true, true, true, true, true, true, true, true, true, true, false, false] rfl rfl (any_of HT_.out (by kernel_rfl)) (fun _ _ _ h => h) (Or.inl ⟨by rfl, ?_⟩) ?_ ?_
                  rotate_left
                  · intro w'
                    go_simp
                    with_reducible rfl
                  rotate_left
                  · simp only [Act.put, List.setIfInBounds_toArray, List.set_cons_zero, List.set_cons_succ, i64_w, i32_w]
                    rfl
                  refine pure_ (i := 13) (N := some 51) (v := ?_) (a' := ?_) #[true, true, true, true, true, true, true, true, true, true, true, true, true, true, false] rfl rfl (any_of HT_.out (by kernel_rfl)) (fun _ _ _ h => h) (Or.inl ⟨by rfl, ?_⟩) ?_ ?_
                  rotate_left
                  · intro w'
                    go_simp
                    with_reducible rfl
                  rotate_left
                  · simp only [Act.put, List.setIfInBounds_toArray, List.set_cons_zero, List.set_cons_succ, i64_w, i32_w]
                    rfl
                  refine pure_ (i := 14) (N := some 52) (v := ?_) (a' := ?_) #[true, true, true, true, true, true, true, true, true, true, true, true, true, true, true] rfl rfl (any_of HT_.out (by kernel_rfl)) (fun _ _ _ h => h) (Or.inl ⟨by rfl, ?_⟩) ?_ ?_
                  rotate_left
                  · intro w'
                    go_simp
                    with_reducible rfl
                  rotate_left
                  · simp only [Act.put, List.setIfInBounds_toArray, List.set_cons_zero, List.set_cons_succ, i64_w, i32_w]
                    rfl
                  refine done_ (done_of HT_.out (by kernel_rfl)) ?_
                  try go_wp2
                  go_roundg kj261
                  case measure => have := HJ5.out; have := HJ22.out; have := HJ152.out; have := HJ228.out; have := HJ251.out; have := HK6.out; have := HJ261.out; omega
                  case rel => exact ⟨(wrap64 (x50_6 + 1)), (by first | rfl | ((conv => lhs; whnf); first | rfl | (simp; done) | (simp [*]; done))), H', ⟨by have := HJ5.out; have := HJ22.out; have := HJ152.out; have := HJ228.out; have := HJ251.out; have := HK6.out; have := HJ261.out; omega⟩, ⟨by (with_reducible repeat (first | apply Kd.R_alloc | apply Kd.R_drewN | apply Kd.R_drew)); exact HO_23.out⟩, ⟨by repeat (first | (with_reducible first | exact HB.out | apply below_alloc | apply pw_below_drewN | apply below_drew1) | exact HB.out)⟩⟩
                · rw [if_neg c274] at H
                  have c274b0 : (t324 == 1) = false := beq_eq_false_iff_ne.mpr c274
                  have c274b1 : (t324 != 1) = true := bne_iff_ne.mpr c274
                  obtain rfl := Option.some.inj H
                  try go_wp2
                  have n0_ := Aside0.mk (Kd.R_drew HO_23.out)
                  have n1_ := Aside0.mk (below_drew1 HB.out)
                  clear HO_23
                  clear HB
                  have HO_23 := n0_
                  have HB := n1_
                  clear n0_ n1_
                  obtain ⟨Ao279, co279, eo279⟩ := Kd.R_slice HO_23.out
                  (first | subst eo279 | (injection eo279 with f1_ f2_ f3_; have f4_ := f1_.symm; have f5_ := f3_.symm; clear f1_ f2_ f3_; subst f4_; subst f5_))
                  have p322 : 0 ≤ ((ji267) : Int) := of_decide_eq_true (by first | (with_reducible assumption) | assumption)
                  have q322 : (ji267) < (t280.length : Int) := of_decide_eq_true (by first | (with_reducible assumption) | assumption)
                  obtain ⟨ad322, e322, hx322_0⟩ := Kd.at_string (Kd.R_reads' HO_23.out).2.2 (ji267) p322 q322
                  cases e322
                  replace p322 := eq_true p322
                  replace q322 := eq_true q322
                  have p323 : 0 ≤ (x50_6 : Int) := of_decide_eq_true (by first | (with_reducible assumption) | assumption)
                  have q323 : x50_6 < (t280.length : Int) := of_decide_eq_true (by first | (with_reducible assumption) | assumption)
                  obtain ⟨ad323, e323, hx323_0⟩ := Kd.at_string (Kd.R_reads' HO_23.out).2.2 x50_6 p323 q323
                  obtain rfl : ad322 = ad323 := (by injection e323)
                  replace p323 := eq_true p323
                  replace q323 := eq_true q323
                  refine start_ (n := 15) (S := fun w' => w'.cell? (ad322.add ((ji267)).toNat) = some (.string (rdOf ByteArray.empty t280 (ji267))) ∧ w'.cell? (ad322.add (x50_6).toNat) = some (.string (rdOf ByteArray.empty t280 x50_6))) (ds := []) #[false, false, false, false, false, false, false, false, false, false, false, false, false, false, false] (by kernel_rfl) rfl rfl ⟨hx322_0, hx323_0⟩ (fun hHeld => ?_); refine with_tabW laws_FnWaysLeadOfAll.tab47 laws_FnWaysLeadOfAll.bits47 (fun HT_ HW_ => ?_)
                  generalize wc.drew = w278 at HO_23 HB hx322_0 hx323_0 hHeld ⊢
                  refine pure_ (i := 0) (N := some 432) (v := ?_) (a' := ?_) #[true, false, false, false, false, false, false, false, false, false, false, false, false, false, false] rfl rfl (any_of HT_.out (by kernel_rfl)) (fun _ _ _ h => h) (Or.inl ⟨by rfl, ?_⟩) ?_ ?_
                  rotate_left
                  · intro w'
                    go_simp
                    with_reducible rfl
                  rotate_left
                  · simp only [Act.put, List.setIfInBounds_toArray, List.set_cons_zero, List.set_cons_succ, i64_w, i32_w]
                    rfl
                  refine pure_ (i := 1) (N := some 433) (v := ?_) (a' := ?_) #[true, true, false, false, false, false, false, false, false, false, false, false, false, false, false] rfl rfl (any_of HT_.out (by kernel_rfl)) (fun _ _ _ h => h) (Or.inl ⟨by rfl, ?_⟩) ?_ ?_
                  rotate_left
                  · intro w'
                    go_simp
                    with_reducible rfl
                  rotate_left
                  · simp only [Act.put, List.setIfInBounds_toArray, List.set_cons_zero, List.set_cons_succ, i64_w, i32_w]
                    rfl
                  refine pure_ (i := 2) (N := some 434) (v := ?_) (a' := ?_) #[true, true, true, false, false, false, false, false, false, false, false, false, false, false, false] rfl rfl (any_of HT_.out (by kernel_rfl)) (fun _ _ _ h => h) (Or.inl ⟨by rfl, ?_⟩) ?_ ?_
                  rotate_left
                  · intro w'
                    go_simp
                    with_reducible rfl
                  rotate_left
                  · simp only [Act.put, List.setIfInBounds_toArray, List.set_cons_zero, List.set_cons_succ, i64_w, i32_w]
                    rfl
                  refine pure_ (i := 3) (N := some 435) (v := ?_) (a' := ?_) #[true, true, true, true, false, false, false, false, false, false, false, false, false, false, false] rfl rfl (any_of HT_.out (by kernel_rfl)) (fun _ _ _ h => h) (Or.inl ⟨by rfl, ?_⟩) ?_ ?_
                  rotate_left
                  · intro w'
                    go_simp
                    with_reducible rfl
                  rotate_left
                  · simp only [Act.put, List.setIfInBounds_toArray, List.set_cons_zero, List.set_cons_succ, i64_w, i32_w]
                    rfl
                  refine pure_ (i := 5) (N := some 437) (v := ?_) (a' := ?_) #[true, true, true, true, false, true, false, false, false, false, false, false, false, false, false] rfl rfl (any_of HT_.out (by kernel_rfl)) (fun _ _ _ h => h) (Or.inl ⟨by rfl, ?_⟩) ?_ ?_
                  rotate_left
                  · intro w'
                    go_simp
                    with_reducible rfl
                  rotate_left
                  · simp only [Act.put, List.setIfInBounds_toArray, List.set_cons_zero, List.set_cons_succ, i64_w, i32_w]
                    rfl
                  refine pure_ (i := 6) (N := some 438) (v := ?_) (a' := ?_) #[true, true, true, true, false, true, true, false, false, false, false, false, false, false, false] rfl rfl (any_of HT_.out (by kernel_rfl)) (fun _ _ _ h => h) (Or.inl ⟨by rfl, ?_⟩) ?_ ?_
                  rotate_left
                  · intro w'
                    go_simp
                    with_reducible rfl
                  rotate_left
                  · simp only [Act.put, List.setIfInBounds_toArray, List.set_cons_zero, List.set_cons_succ, i64_w, i32_w]
                    rfl
                  refine pure_ (i := 7) (N := some 439) (v := ?_) (a' := ?_) #[true, true, true, true, false, true, true, true, false, false, false, false, false, false, false] rfl rfl (any_of HT_.out (by kernel_rfl)) (fun _ _ _ h => h) (Or.inl ⟨by rfl, ?_⟩) ?_ ?_
                  rotate_left
                  · intro w'
                    go_simp
                    with_reducible rfl
                  rotate_left
                  · simp only [Act.put, List.setIfInBounds_toArray, List.set_cons_zero, List.set_cons_succ, i64_w, i32_w]
                    rfl
                  refine take_ (i := 4) (N := some 436) (v := ?_) (a' := ?_) #[true, true, true, true, true, true, true, true, false, false, false, false, false, false, false] rfl rfl (take_ofW HT_.out HW_.out (by kernel_rfl)) (fun _ _ _ h => h) (Or.inl ⟨by rfl, ?_⟩) hHeld ?_ ?_
                  rotate_left
                  · rintro w' ⟨s0, s1⟩
                    go_simp
                    with_reducible rfl
                  rotate_left
                  · simp only [Act.put, List.setIfInBounds_toArray, List.set_cons_zero, List.set_cons_succ, i64_w, i32_w]
                    rfl
                  refine take_ (i := 8) (N := some 440) (v := ?_) (a' := ?_) #[true, true, true, true, true, true, true, true, true, false, false, false, false, false, false] rfl rfl (take_ofW HT_.out HW_.out (by kernel_rfl)) (fun _ _ _ h => h) (Or.inl ⟨by rfl, ?_⟩) hHeld ?_ ?_
                  rotate_left
                  · rintro w' ⟨s0, s1⟩
                    go_simp
                    with_reducible rfl
                  rotate_left
                  · simp only [Act.put, List.setIfInBounds_toArray, List.set_cons_zero, List.set_cons_succ, i64_w, i32_w]
                    rfl
                  refine one_ (i := 9) (N := some 441) #[true, true, true, true, true, true, true, true, true, true, false, false, false, false, false] rfl rfl (one_of HT_.out (by kernel_rfl)) (by decide) (fun K hK => ?_)
                  refine goes_ Tryd.func6 (by kernel_rfl) rfl #[.string (rdOf ByteArray.empty t280 (ji267)), .string (rdOf ByteArray.empty t280 x50_6)] (by rfl) rfl rfl (by (try simp only [List.map_toArray, List.map_cons, List.map_nil]); first | done | (simp only [hji267]; rfl) | rfl | (simp only [List.length_drop, List.length_take]; rfl)) ?_
                  with_reducible refine (impl_FewestMoves.calls kj261 (rdOf ByteArray.empty t280 (ji267)) (rdOf ByteArray.empty t280 x50_6) t324 true _ A272.out).mono ?_
                  rintro e w280 ⟨rfl, hb⟩
                  have HS0_ := (hb.cell (World.block_lt_of_cell? _ _ (hHeld.1))).trans (hHeld.1)
                  have HS1_ := (hb.cell (World.block_lt_of_cell? _ _ (hHeld.2))).trans (hHeld.2)
                  refine ⟨_, rfl, ?_⟩
                  have n0_ := Aside0.mk (Kd.R_below (by (with_reducible repeat (first | apply Kd.R_alloc | apply Kd.R_drewN | apply Kd.R_drew)); exact HO_23.out) hb)
                  have n1_ := Aside0.mk (below_step (by repeat (first | (with_reducible first | exact HB.out | apply below_alloc | apply pw_below_drewN | apply below_drew1) | exact HB.out)) hb)
                  clear HO_23
                  clear HB
                  have HO_23 := n0_
                  have HB := n1_
                  clear n0_ n1_
                  (try clear hb)
                  (try clear hb2)
                  (try clear hk)
                  (try clear hi)
                  refine hK.out _ _ ⟨HS0_, HS1_⟩ (fun hHeld => ?_)
                  clear hK K
                  refine norm_ (a' := ?_) ?_ ?_
                  rotate_left
                  · show Act.put _ (some 441) _ = _
                    simp only [Act.put, List.setIfInBounds_toArray, List.set_cons_zero, List.set_cons_succ, i64_w, i32_w]
                    rfl
                  refine pure_ (i := 10) (N := some 431) (v := ?_) (a' := ?_) #[true, true, true, true, true, true, true, true, true, true, true, false, false, false, false] rfl rfl (any_of HT_.out (by kernel_rfl)) (fun _ _ _ h => h) (Or.inl ⟨by rfl, ?_⟩) ?_ ?_
                  rotate_left
                  · intro w'
                    go_simp
                    with_reducible rfl
                  rotate_left
                  · simp only [Act.put, List.setIfInBounds_toArray, List.set_cons_zero, List.set_cons_succ, i64_w, i32_w]
                    rfl
                  refine pure_ (i := 11) (N := some 442) (v := ?_) (a' := ?_) #[true, true, true, true, true, true, true, true, true, true, true, true, false, false, false] rfl rfl (any_of HT_.out (by kernel_rfl)) (fun _ _ _ h => h) (Or.inl ⟨by rfl, ?_⟩) ?_ ?_
                  rotate_left
                  · intro w'
                    go_simp
                    with_reducible rfl
                  rotate_left
                  · simp only [Act.put, List.setIfInBounds_toArray, List.set_cons_zero, List.set_cons_succ, i64_w, i32_w]
                    rfl
                  refine pure_ (i := 12) (N := some 443) (v := ?_) (a' := ?_) #[true, true, true, true, true, true, true, true, true, true, true, true, true, false, false] rfl rfl (any_of HT_.out (by kernel_rfl)) (fun _ _ _ h => h) (Or.inl ⟨by rfl, ?_⟩) ?_ ?_
                  rotate_left
                  · intro w'
                    go_simp
                    with_reducible rfl
                  rotate_left
                  · simp only [Act.put, List.setIfInBounds_toArray, List.set_cons_zero, List.set_cons_succ, i64_w, i32_w]
                    rfl
                  refine pure_ (i := 13) (N := some 51) (v := ?_) (a' := ?_) #[true, true, true, true, true, true, true, true, true, true, true, true, true, true, false] rfl rfl (any_of HT_.out (by kernel_rfl)) (fun _ _ _ h => h) (Or.inl ⟨by rfl, ?_⟩) ?_ ?_
                  rotate_left
                  · intro w'
                    go_simp
                    with_reducible rfl
                  rotate_left
                  · simp only [Act.put, List.setIfInBounds_toArray, List.set_cons_zero, List.set_cons_succ, i64_w, i32_w]
                    rfl
                  refine pure_ (i := 14) (N := some 52) (v := ?_) (a' := ?_) #[true, true, true, true, true, true, true, true, true, true, true, true, true, true, true] rfl rfl (any_of HT_.out (by kernel_rfl)) (fun _ _ _ h => h) (Or.inl ⟨by rfl, ?_⟩) ?_ ?_
                  rotate_left
                  · intro w'
                    go_simp
                    with_reducible rfl
                  rotate_left
                  · simp only [Act.put, List.setIfInBounds_toArray, List.set_cons_zero, List.set_cons_succ, i64_w, i32_w]
                    rfl
                  refine done_ (done_of HT_.out (by kernel_rfl)) ?_
                  try go_wp2
                  go_ret
                  exact ⟨by first | rfl | (simp [errW_none, errW_some] <;> rfl) | (simp only [← hji267]; first | rfl | (simp [errW_none, errW_some] <;> rfl)) | (simp [*, errW_none, errW_some] <;> rfl), by repeat (first | (with_reducible first | exact HB.out | apply below_alloc | apply pw_below_drewN | apply below_drew1) | exact HB.out)⟩
              · replace c273 := Bool.eq_false_iff.mpr c273
                subst c273
                have H1 : (some false) = some r := by rw [if_neg (show ¬ (false = true) by decide)] at H; exact H
                clear H
                have H := H1
                clear H1
                obtain rfl := Option.some.inj H
                try go_wp2
                have n0_ := Aside0.mk (Kd.R_drew HO_23.out)
                have n1_ := Aside0.mk (below_drew1 HB.out)
                clear HO_23
                clear HB
                have HO_23 := n0_
                have HB := n1_
                clear n0_ n1_
                obtain ⟨Ao282, co282, eo282⟩ := Kd.R_slice HO_23.out
                (first | subst eo282 | (injection eo282 with f1_ f2_ f3_; have f4_ := f1_.symm; have f5_ := f3_.symm; clear f1_ f2_ f3_; subst f4_; subst f5_))
                have p322 : 0 ≤ ((ji267) : Int) := of_decide_eq_true (by first | (with_reducible assumption) | assumption)
                have q322 : (ji267) < (t280.length : Int) := of_decide_eq_true (by first | (with_reducible assumption) | assumption)
                obtain ⟨ad322, e322, hx322_0⟩ := Kd.at_string (Kd.R_reads' HO_23.out).2.2 (ji267) p322 q322
                cases e322
                replace p322 := eq_true p322
                replace q322 := eq_true q322
                have p323 : 0 ≤ (x50_6 : Int) := of_decide_eq_true (by first | (with_reducible assumption) | assumption)
                have q323 : x50_6 < (t280.length : Int) := of_decide_eq_true (by first | (with_reducible assumption) | assumption)
                obtain ⟨ad323, e323, hx323_0⟩ := Kd.at_string (Kd.R_reads' HO_23.out).2.2 x50_6 p323 q323
                obtain rfl : ad322 = ad323 := (by injection e323)
                replace p323 := eq_true p323
                replace q323 := eq_true q323
                refine start_ (n := 15) (S := fun w' => w'.cell? (ad322.add ((ji267)).toNat) = some (.string (rdOf ByteArray.empty t280 (ji267))) ∧ w'.cell? (ad322.add (x50_6).toNat) = some (.string (rdOf ByteArray.empty t280 x50_6))) (ds := []) #[false, false, false, false, false, false, false, false, false, false, false, false, false, false, false] (by kernel_rfl) rfl rfl ⟨hx322_0, hx323_0⟩ (fun hHeld => ?_); refine with_tabW laws_FnWaysLeadOfAll.tab47 laws_FnWaysLeadOfAll.bits47 (fun HT_ HW_ => ?_)
                generalize wc.drew = w281 at HO_23 HB hx322_0 hx323_0 hHeld ⊢
                refine pure_ (i := 0) (N := some 432) (v := ?_) (a' := ?_) #[true, false, false, false, false, false, false, false, false, false, false, false, false, false, false] rfl rfl (any_of HT_.out (by kernel_rfl)) (fun _ _ _ h => h) (Or.inl ⟨by rfl, ?_⟩) ?_ ?_
                rotate_left
                · intro w'
                  go_simp
                  with_reducible rfl
                rotate_left
                · simp only [Act.put, List.setIfInBounds_toArray, List.set_cons_zero, List.set_cons_succ, i64_w, i32_w]
                  rfl
                refine pure_ (i := 1) (N := some 433) (v := ?_) (a' := ?_) #[true, true, false, false, false, false, false, false, false, false, false, false, false, false, false] rfl rfl (any_of HT_.out (by kernel_rfl)) (fun _ _ _ h => h) (Or.inl ⟨by rfl, ?_⟩) ?_ ?_
                rotate_left
                · intro w'
                  go_simp
                  with_reducible rfl
                rotate_left
                · simp only [Act.put, List.setIfInBounds_toArray, List.set_cons_zero, List.set_cons_succ, i64_w, i32_w]
                  rfl
                refine pure_ (i := 2) (N := some 434) (v := ?_) (a' := ?_) #[true, true, true, false, false, false, false, false, false, false, false, false, false, false, false] rfl rfl (any_of HT_.out (by kernel_rfl)) (fun _ _ _ h => h) (Or.inl ⟨by rfl, ?_⟩) ?_ ?_
                rotate_left
                · intro w'
                  go_simp
                  with_reducible rfl
                rotate_left
                · simp only [Act.put, List.setIfInBounds_toArray, List.set_cons_zero, List.set_cons_succ, i64_w, i32_w]
                  rfl
                refine pure_ (i := 3) (N := some 435) (v := ?_) (a' := ?_) #[true, true, true, true, false, false, false, false, false, false, false, false, false, false, false] rfl rfl (any_of HT_.out (by kernel_rfl)) (fun _ _ _ h => h) (Or.inl ⟨by rfl, ?_⟩) ?_ ?_
                rotate_left
                · intro w'
                  go_simp
                  with_reducible rfl
                rotate_left
                · simp only [Act.put, List.setIfInBounds_toArray, List.set_cons_zero, List.set_cons_succ, i64_w, i32_w]
                  rfl
                refine pure_ (i := 5) (N := some 437) (v := ?_) (a' := ?_) #[true, true, true, true, false, true, false, false, false, false, false, false, false, false, false] rfl rfl (any_of HT_.out (by kernel_rfl)) (fun _ _ _ h => h) (Or.inl ⟨by rfl, ?_⟩) ?_ ?_
                rotate_left
                · intro w'
                  go_simp
                  with_reducible rfl
                rotate_left
                · simp only [Act.put, List.setIfInBounds_toArray, List.set_cons_zero, List.set_cons_succ, i64_w, i32_w]
                  rfl
                refine pure_ (i := 6) (N := some 438) (v := ?_) (a' := ?_) #[true, true, true, true, false, true, true, false, false, false, false, false, false, false, false] rfl rfl (any_of HT_.out (by kernel_rfl)) (fun _ _ _ h => h) (Or.inl ⟨by rfl, ?_⟩) ?_ ?_
                rotate_left
                · intro w'
                  go_simp
                  with_reducible rfl
                rotate_left
                · simp only [Act.put, List.setIfInBounds_toArray, List.set_cons_zero, List.set_cons_succ, i64_w, i32_w]
                  rfl
                refine pure_ (i := 7) (N := some 439) (v := ?_) (a' := ?_) #[true, true, true, true, false, true, true, true, false, false, false, false, false, false, false] rfl rfl (any_of HT_.out (by kernel_rfl)) (fun _ _ _ h => h) (Or.inl ⟨by rfl, ?_⟩) ?_ ?_
                rotate_left
                · intro w'
                  go_simp
                  with_reducible rfl
                rotate_left
                · simp only [Act.put, List.setIfInBounds_toArray, List.set_cons_zero, List.set_cons_succ, i64_w, i32_w]
                  rfl
                refine take_ (i := 4) (N := some 436) (v := ?_) (a' := ?_) #[true, true, true, true, true, true, true, true, false, false, false, false, false, false, false] rfl rfl (take_ofW HT_.out HW_.out (by kernel_rfl)) (fun _ _ _ h => h) (Or.inl ⟨by rfl, ?_⟩) hHeld ?_ ?_
                rotate_left
                · rintro w' ⟨s0, s1⟩
                  go_simp
                  with_reducible rfl
                rotate_left
                · simp only [Act.put, List.setIfInBounds_toArray, List.set_cons_zero, List.set_cons_succ, i64_w, i32_w]
                  rfl
                refine take_ (i := 8) (N := some 440) (v := ?_) (a' := ?_) #[true, true, true, true, true, true, true, true, true, false, false, false, false, false, false] rfl rfl (take_ofW HT_.out HW_.out (by kernel_rfl)) (fun _ _ _ h => h) (Or.inl ⟨by rfl, ?_⟩) hHeld ?_ ?_
                rotate_left
                · rintro w' ⟨s0, s1⟩
                  go_simp
                  with_reducible rfl
                rotate_left
                · simp only [Act.put, List.setIfInBounds_toArray, List.set_cons_zero, List.set_cons_succ, i64_w, i32_w]
                  rfl
                refine one_ (i := 9) (N := some 441) #[true, true, true, true, true, true, true, true, true, true, false, false, false, false, false] rfl rfl (one_of HT_.out (by kernel_rfl)) (by decide) (fun K hK => ?_)
                refine goes_ Tryd.func6 (by kernel_rfl) rfl #[.string (rdOf ByteArray.empty t280 (ji267)), .string (rdOf ByteArray.empty t280 x50_6)] (by rfl) rfl rfl (by (try simp only [List.map_toArray, List.map_cons, List.map_nil]); first | done | (simp only [hji267]; rfl) | rfl | (simp only [List.length_drop, List.length_take]; rfl)) ?_
                with_reducible refine (impl_FewestMoves.calls kj261 (rdOf ByteArray.empty t280 (ji267)) (rdOf ByteArray.empty t280 x50_6) t324 false _ A272.out).mono ?_
                rintro e w283 ⟨rfl, hb⟩
                have HS0_ := (hb.cell (World.block_lt_of_cell? _ _ (hHeld.1))).trans (hHeld.1)
                have HS1_ := (hb.cell (World.block_lt_of_cell? _ _ (hHeld.2))).trans (hHeld.2)
                refine ⟨_, rfl, ?_⟩
                have n0_ := Aside0.mk (Kd.R_below (by (with_reducible repeat (first | apply Kd.R_alloc | apply Kd.R_drewN | apply Kd.R_drew)); exact HO_23.out) hb)
                have n1_ := Aside0.mk (below_step (by repeat (first | (with_reducible first | exact HB.out | apply below_alloc | apply pw_below_drewN | apply below_drew1) | exact HB.out)) hb)
                clear HO_23
                clear HB
                have HO_23 := n0_
                have HB := n1_
                clear n0_ n1_
                (try clear hb)
                (try clear hb2)
                (try clear hk)
                (try clear hi)
                refine hK.out _ _ ⟨HS0_, HS1_⟩ (fun hHeld => ?_)
                clear hK K
                refine norm_ (a' := ?_) ?_ ?_
                rotate_left
                · show Act.put _ (some 441) _ = _
                  simp only [Act.put, List.setIfInBounds_toArray, List.set_cons_zero, List.set_cons_succ, i64_w, i32_w]
                  rfl
                refine pure_ (i := 10) (N := some 431) (v := ?_) (a' := ?_) #[true, true, true, true, true, true, true, true, true, true, true, false, false, false, false] rfl rfl (any_of HT_.out (by kernel_rfl)) (fun _ _ _ h => h) (Or.inl ⟨by rfl, ?_⟩) ?_ ?_
                rotate_left
                · intro w'
                  go_simp
                  with_reducible rfl
                rotate_left
                · simp only [Act.put, List.setIfInBounds_toArray, List.set_cons_zero, List.set_cons_succ, i64_w, i32_w]
                  rfl
                refine pure_ (i := 11) (N := some 442) (v := ?_) (a' := ?_) #[true, true, true, true, true, true, true, true, true, true, true, true, false, false, false] rfl rfl (any_of HT_.out (by kernel_rfl)) (fun _ _ _ h => h) (Or.inl ⟨by rfl, ?_⟩) ?_ ?_
                rotate_left
                · intro w'
                  go_simp
                  with_reducible rfl
                rotate_left
                · simp only [Act.put, List.setIfInBounds_toArray, List.set_cons_zero, List.set_cons_succ, i64_w, i32_w]
                  rfl
                refine pure_ (i := 12) (N := some 443) (v := ?_) (a' := ?_) #[true, true, true, true, true, true, true, true, true, true, true, true, true, false, false] rfl rfl (any_of HT_.out (by kernel_rfl)) (fun _ _ _ h => h) (Or.inl ⟨by rfl, ?_⟩) ?_ ?_
                rotate_left
                · intro w'
                  go_simp
                  with_reducible rfl
                rotate_left
                · simp only [Act.put, List.setIfInBounds_toArray, List.set_cons_zero, List.set_cons_succ, i64_w, i32_w]
                  rfl
                refine pure_ (i := 13) (N := some 51) (v := ?_) (a' := ?_) #[true, true, true, true, true, true, true, true, true, true, true, true, true, true, false] rfl rfl (any_of HT_.out (by kernel_rfl)) (fun _ _ _ h => h) (Or.inl ⟨by rfl, ?_⟩) ?_ ?_
                rotate_left
                · intro w'
                  go_simp
                  with_reducible rfl
                rotate_left
                · simp only [Act.put, List.setIfInBounds_toArray, List.set_cons_zero, List.set_cons_succ, i64_w, i32_w]
                  rfl
                refine pure_ (i := 14) (N := some 52) (v := ?_) (a' := ?_) #[true, true, true, true, true, true, true, true, true, true, true, true, true, true, true] rfl rfl (any_of HT_.out (by kernel_rfl)) (fun _ _ _ h => h) (Or.inl ⟨by rfl, ?_⟩) ?_ ?_
                rotate_left
                · intro w'
                  go_simp
                  with_reducible rfl
                rotate_left
                · simp only [Act.put, List.setIfInBounds_toArray, List.set_cons_zero, List.set_cons_succ, i64_w, i32_w]
                  rfl
                refine done_ (done_of HT_.out (by kernel_rfl)) ?_
                try go_wp2
                go_ret
                exact ⟨by first | rfl | (simp [errW_none, errW_some] <;> rfl) | (simp only [← hji267]; first | rfl | (simp [errW_none, errW_some] <;> rfl)) | (simp [*, errW_none, errW_some] <;> rfl), by repeat (first | (with_reducible first | exact HB.out | apply below_alloc | apply pw_below_drewN | apply below_drew1) | exact HB.out)⟩
            · rw [if_neg c271] at H
              exact absurd H (by simp)
          · rw [if_neg c270] at H
            exact absurd H (by simp)
        · rw [if_neg c269] at H
          exact absurd H (by simp)
      · rw [if_neg c268] at H
        exact absurd H (by simp)
    · replace c266 := Bool.eq_false_iff.mpr c266
      subst c266
      have H1 : (laws_FnWaysLeadOfAll.j10 kj261 a2 l3 a4) = some r := by rw [if_neg (show ¬ (false = true) by decide)] at H; exact H
      clear H
      have H := H1
      clear H1
      have H' := Aside0.mk H
      clear H
      go_wp2
      refine Met.intro (hJ_ _ _ ?mg_ ?rel)
      case mg_ => kernel_rfl
      case rel => exact ⟨_, H', ⟨by have := HJ5.out; have := HJ22.out; have := HJ152.out; have := HJ228.out; have := HJ251.out; have := HK6.out; have := HJ261.out; first | omega | exact Nat.le_refl _⟩, ⟨by repeat (first | (with_reducible first | exact HB.out | apply below_alloc | apply pw_below_drewN | apply below_drew1) | exact HB.out)⟩⟩

set_option maxHeartbeats 8000000 in
set_option maxRecDepth 100000 in
def laws_FnWaysLeadOfAll.c18 : PSigma fun P0_ : Prop => PSigma fun P1_ : Prop => Hole P0_ → Hole P1_ → laws_FnWaysLeadOfAll.c13.2.1 := by
  refine' ⟨_, _, fun HP0_ HP1_ => _⟩
  rotate_left 2
  intro k a0 a1 a2 A3 c3 l3 a4 r w HR3 HC3 _ _ _ _ kj5 HJ5 t264 t265 A11 t268 t269 A12 t272 t273 A13 t274 t275 A14 t276 t277 A15 t278 t279 A16 t280 t281 A17 t284 t285 A18 t288 t289 A19 t290 t291 A20 t292 t293 A21 t296 t297 A22 w24 v266 w25 v270 w26 _ w27 w28 w29 v282 w30 v286 w31 nd w32 v294 w33 v298 HO267 HO271 HO283 HO287 HO295 HO299 _ _ _ _ _ _ _ kj22 HJ22 _ _ HO_11 _ HO_31 _ kj152 HJ152 _ _ HO_23 HB kj228 HJ228 HC250 _ _ f_ wc hcut
  clear HC250
  try clear c2
  try clear p2
  try clear p3
  try clear q3
  try clear hx3
  try clear c6
  try clear p6
  try clear c25
  try clear c26
  try clear c27
  try clear q31
  try clear p32
  try clear q32
  try clear hx32
  try clear p64
  try clear c251
  try clear c266
  try clear c268
  try clear c268b0
  try clear c269
  try clear c269b0
  try clear c270
  try clear c270b0
  try clear c271
  try clear c271b0
  try clear c273
  try clear c274
  try clear c274b0
  try clear c274b1
  try clear hx322_0
  try clear hx323_0
  try clear p321
  try clear p322
  try clear p323
  try clear p6
  try clear p64
  try clear q3
  try clear q31
  try clear q317
  try clear q318
  try clear q319
  try clear q32
  try clear q320
  try clear q321
  try clear q322
  try clear q323
  obtain ⟨kq, HA, HJ249, HB⟩ := hcut
  cases kq with
  | zero => exact absurd HA.out (by simp [laws_FnWaysLeadOfAll.j10])
  | succ kj249 =>
    have H := HA.out
    clear HA
    simp only [laws_FnWaysLeadOfAll.j10] at H
    replace H := Option.bind_eq_some_iff.mp H
    obtain ⟨⟨t326, t327⟩, A2840, H⟩ := H
    replace H : ((spec_MovesToClear.f kj249 a2).bind fun bt328 => ((impl_AllOn.f a2).bind fun bt330 => ((spec_AllOn.f kj249 a2).bind fun bt332 => ((impl_OtherEnd.f kj249 a2).bind fun bt334 => ((spec_OtherEnd.f kj249 a2).bind fun bt336 => ((impl_MovesText.f kj249 l3).bind fun bt338 => ((spec_MovesText.f kj249 l3).bind fun bt340 => ((impl_ParseMoves.f kj249 a4).bind fun bt342 => ((spec_ParseMoves.f kj249 a4).bind fun bt346 => (if (t327 != bt328.2) = true then (laws_FnWaysLeadOfAll.j11 kj249 a2 l3 a4 t326 t327 bt330.1 bt334.1 bt338.1 bt338.2 bt342.1 bt342.2 true) else (if t326 = bt328.1 then (if (bt330.2 != bt332.2) = true then (laws_FnWaysLeadOfAll.j11 kj249 a2 l3 a4 t326 t327 bt330.1 bt334.1 bt338.1 bt338.2 bt342.1 bt342.2 true) else (if bt330.1.toList = bt332.1.toList then (if (bt334.2 != bt336.2) = true then (laws_FnWaysLeadOfAll.j11 kj249 a2 l3 a4 t326 t327 bt330.1 bt334.1 bt338.1 bt338.2 bt342.1 bt342.2 true) else (if bt334.1.toList = bt336.1.toList then (if (bt338.2 != bt340.2) = true then (laws_FnWaysLeadOfAll.j11 kj249 a2 l3 a4 t326 t327 bt330.1 bt334.1 bt338.1 bt338.2 bt342.1 bt342.2 true) else (if bt338.1.toList = bt340.1.toList then (if (bt342.2 != bt346.2) = true then (laws_FnWaysLeadOfAll.j11 kj249 a2 l3 a4 t326 t327 bt330.1 bt334.1 bt338.1 bt338.2 bt342.1 bt342.2 true) else ((laws_ySame.f kj249 bt342.1 bt346.1).bind fun t350 => (if t350 = true then (if (bt330.2 != t327) = true then (laws_FnWaysLeadOfAll.j11 kj249 a2 l3 a4 t326 t327 bt330.1 bt334.1 bt338.1 bt338.2 bt342.1 bt342.2 true) else (laws_FnWaysLeadOfAll.j11 kj249 a2 l3 a4 t326 t327 bt330.1 bt334.1 bt338.1 bt338.2 bt342.1 bt342.2 (bt334.2 != t327))) else (laws_FnWaysLeadOfAll.j11 kj249 a2 l3 a4 t326 t327 bt330.1 bt334.1 bt338.1 bt338.2 bt342.1 bt342.2 true)))) else (laws_FnWaysLeadOfAll.j11 kj249 a2 l3 a4 t326 t327 bt330.1 bt334.1 bt338.1 bt338.2 bt342.1 bt342.2 true))) else (laws_FnWaysLeadOfAll.j11 kj249 a2 l3 a4 t326 t327 bt330.1 bt334.1 bt338.1 bt338.2 bt342.1 bt342.2 true))) else (laws_FnWaysLeadOfAll.j11 kj249 a2 l3 a4 t326 t327 bt330.1 bt334.1 bt338.1 bt338.2 bt342.1 bt342.2 true))) else (laws_FnWaysLeadOfAll.j11 kj249 a2 l3 a4 t326 t327 bt330.1 bt334.1 bt338.1 bt338.2 bt342.1 bt342.2 true)))))))))))) = some r := H
    have A284 := Aside0.mk A2840
    clear A2840
    replace H := Option.bind_eq_some_iff.mp H
    obtain ⟨⟨t328, t329⟩, A2850, H⟩ := H
    replace H : ((impl_AllOn.f a2).bind fun bt330 => ((spec_AllOn.f kj249 a2).bind fun bt332 => ((impl_OtherEnd.f kj249 a2).bind fun bt334 => ((spec_OtherEnd.f kj249 a2).bind fun bt336 => ((impl_MovesText.f kj249 l3).bind fun bt338 => ((spec_MovesText.f kj249 l3).bind fun bt340 => ((impl_ParseMoves.f kj249 a4).bind fun bt342 => ((spec_ParseMoves.f kj249 a4).bind fun bt346 => (if (t327 != t329) = true then (laws_FnWaysLeadOfAll.j11 kj249 a2 l3 a4 t326 t327 bt330.1 bt334.1 bt338.1 bt338.2 bt342.1 bt342.2 true) else (if t326 = t328 then (if (bt330.2 != bt332.2) = true then (laws_FnWaysLeadOfAll.j11 kj249 a2 l3 a4 t326 t327 bt330.1 bt334.1 bt338.1 bt338.2 bt342.1 bt342.2 true) else (if bt330.1.toList = bt332.1.toList then (if (bt334.2 != bt336.2) = true then (laws_FnWaysLeadOfAll.j11 kj249 a2 l3 a4 t326 t327 bt330.1 bt334.1 bt338.1 bt338.2 bt342.1 bt342.2 true) else (if bt334.1.toList = bt336.1.toList then (if (bt338.2 != bt340.2) = true then (laws_FnWaysLeadOfAll.j11 kj249 a2 l3 a4 t326 t327 bt330.1 bt334.1 bt338.1 bt338.2 bt342.1 bt342.2 true) else (if bt338.1.toList = bt340.1.toList then (if (bt342.2 != bt346.2) = true then (laws_FnWaysLeadOfAll.j11 kj249 a2 l3 a4 t326 t327 bt330.1 bt334.1 bt338.1 bt338.2 bt342.1 bt342.2 true) else ((laws_ySame.f kj249 bt342.1 bt346.1).bind fun t350 => (if t350 = true then (if (bt330.2 != t327) = true then (laws_FnWaysLeadOfAll.j11 kj249 a2 l3 a4 t326 t327 bt330.1 bt334.1 bt338.1 bt338.2 bt342.1 bt342.2 true) else (laws_FnWaysLeadOfAll.j11 kj249 a2 l3 a4 t326 t327 bt330.1 bt334.1 bt338.1 bt338.2 bt342.1 bt342.2 (bt334.2 != t327))) else (laws_FnWaysLeadOfAll.j11 kj249 a2 l3 a4 t326 t327 bt330.1 bt334.1 bt338.1 bt338.2 bt342.1 bt342.2 true)))) else (laws_FnWaysLeadOfAll.j11 kj249 a2 l3 a4 t326 t327 bt330.1 bt334.1 bt338.1 bt338.2 bt342.1 bt342.2 true))) else (laws_FnWaysLeadOfAll.j11 kj249 a2 l3 a4 t326 t327 bt330.1 bt334.1 bt338.1 bt338.2 bt342.1 bt342.2 true))) else (laws_FnWaysLeadOfAll.j11 kj249 a2 l3 a4 t326 t327 bt330.1 bt334.1 bt338.1 bt338.2 bt342.1 bt342.2 true))) else (laws_FnWaysLeadOfAll.j11 kj249 a2 l3 a4 t326 t327 bt330.1 bt334.1 bt338.1 bt338.2 bt342.1 bt342.2 true))))))))))) = some r := H
    have A285 := Aside0.mk A2850
    clear A2850
    replace H := Option.bind_eq_some_iff.mp H
    obtain ⟨⟨t330, t331⟩, A2860, H⟩ := H
    replace H : ((spec_AllOn.f kj249 a2).bind fun bt332 => ((impl_OtherEnd.f kj249 a2).bind fun bt334 => ((spec_OtherEnd.f kj249 a2).bind fun bt336 => ((impl_MovesText.f kj249 l3).bind fun bt338 => ((spec_MovesText.f kj249 l3).bind fun bt340 => ((impl_ParseMoves.f kj249 a4).bind fun bt342 => ((spec_ParseMoves.f kj249 a4).bind fun bt346 => (if (t327 != t329) = true then (laws_FnWaysLeadOfAll.j11 kj249 a2 l3 a4 t326 t327 t330 bt334.1 bt338.1 bt338.2 bt342.1 bt342.2 true) else (if t326 = t328 then (if (t331 != bt332.2) = true then (laws_FnWaysLeadOfAll.j11 kj249 a2 l3 a4 t326 t327 t330 bt334.1 bt338.1 bt338.2 bt342.1 bt342.2 true) else (if t330.toList = bt332.1.toList then (if (bt334.2 != bt336.2) = true then (laws_FnWaysLeadOfAll.j11 kj249 a2 l3 a4 t326 t327 t330 bt334.1 bt338.1 bt338.2 bt342.1 bt342.2 true) else (if bt334.1.toList = bt336.1.toList then (if (bt338.2 != bt340.2) = true then (laws_FnWaysLeadOfAll.j11 kj249 a2 l3 a4 t326 t327 t330 bt334.1 bt338.1 bt338.2 bt342.1 bt342.2 true) else (if bt338.1.toList = bt340.1.toList then (if (bt342.2 != bt346.2) = true then (laws_FnWaysLeadOfAll.j11 kj249 a2 l3 a4 t326 t327 t330 bt334.1 bt338.1 bt338.2 bt342.1 bt342.2 true) else ((laws_ySame.f kj249 bt342.1 bt346.1).bind fun t350 => (if t350 = true then (if (t331 != t327) = true then (laws_FnWaysLeadOfAll.j11 kj249 a2 l3 a4 t326 t327 t330 bt334.1 bt338.1 bt338.2 bt342.1 bt342.2 true) else (laws_FnWaysLeadOfAll.j11 kj249 a2 l3 a4 t326 t327 t330 bt334.1 bt338.1 bt338.2 bt342.1 bt342.2 (bt334.2 != t327))) else (laws_FnWaysLeadOfAll.j11 kj249 a2 l3 a4 t326 t327 t330 bt334.1 bt338.1 bt338.2 bt342.1 bt342.2 true)))) else (laws_FnWaysLeadOfAll.j11 kj249 a2 l3 a4 t326 t327 t330 bt334.1 bt338.1 bt338.2 bt342.1 bt342.2 true))) else (laws_FnWaysLeadOfAll.j11 kj249 a2 l3 a4 t326 t327 t330 bt334.1 bt338.1 bt338.2 bt342.1 bt342.2 true))) else (laws_FnWaysLeadOfAll.j11 kj249 a2 l3 a4 t326 t327 t330 bt334.1 bt338.1 bt338.2 bt342.1 bt342.2 true))) else (laws_FnWaysLeadOfAll.j11 kj249 a2 l3 a4 t326 t327 t330 bt334.1 bt338.1 bt338.2 bt342.1 bt342.2 true)))))))))) = some r := H
    have A286 := Aside0.mk A2860
    clear A2860
    replace H := Option.bind_eq_some_iff.mp H
    obtain ⟨⟨t332, t333⟩, A2870, H⟩ := H
    replace H : ((impl_OtherEnd.f kj249 a2).bind fun bt334 => ((spec_OtherEnd.f kj249 a2).bind fun bt336 => ((impl_MovesText.f kj249 l3).bind fun bt338 => ((spec_MovesText.f kj249 l3).bind fun bt340 => ((impl_ParseMoves.f kj249 a4).bind fun bt342 => ((spec_ParseMoves.f kj249 a4).bind fun bt346 => (if (t327 != t329) = true then (laws_FnWaysLeadOfAll.j11 kj249 a2 l3 a4 t326 t327 t330 bt334.1 bt338.1 bt338.2 bt342.1 bt342.2 true) else (if t326 = t328 then (if (t331 != t333) = true then (laws_FnWaysLeadOfAll.j11 kj249 a2 l3 a4 t326 t327 t330 bt334.1 bt338.1 bt338.2 bt342.1 bt342.2 true) else (if t330.toList = t332.toList then (if (bt334.2 != bt336.2) = true then (laws_FnWaysLeadOfAll.j11 kj249 a2 l3 a4 t326 t327 t330 bt334.1 bt338.1 bt338.2 bt342.1 bt342.2 true) else (if bt334.1.toList = bt336.1.toList then (if (bt338.2 != bt340.2) = true then (laws_FnWaysLeadOfAll.j11 kj249 a2 l3 a4 t326 t327 t330 bt334.1 bt338.1 bt338.2 bt342.1 bt342.2 true) else (if bt338.1.toList = bt340.1.toList then (if (bt342.2 != bt346.2) = true then (laws_FnWaysLeadOfAll.j11 kj249 a2 l3 a4 t326 t327 t330 bt334.1 bt338.1 bt338.2 bt342.1 bt342.2 true) else ((laws_ySame.f kj249 bt342.1 bt346.1).bind fun t350 => (if t350 = true then (if (t331 != t327) = true then (laws_FnWaysLeadOfAll.j11 kj249 a2 l3 a4 t326 t327 t330 bt334.1 bt338.1 bt338.2 bt342.1 bt342.2 true) else (laws_FnWaysLeadOfAll.j11 kj249 a2 l3 a4 t326 t327 t330 bt334.1 bt338.1 bt338.2 bt342.1 bt342.2 (bt334.2 != t327))) else (laws_FnWaysLeadOfAll.j11 kj249 a2 l3 a4 t326 t327 t330 bt334.1 bt338.1 bt338.2 bt342.1 bt342.2 true)))) else (laws_FnWaysLeadOfAll.j11 kj249 a2 l3 a4 t326 t327 t330 bt334.1 bt338.1 bt338.2 bt342.1 bt342.2 true))) else (laws_FnWaysLeadOfAll.j11 kj249 a2 l3 a4 t326 t327 t330 bt334.1 bt338.1 bt338.2 bt342.1 bt342.2 true))) else (laws_FnWaysLeadOfAll.j11 kj249 a2 l3 a4 t326 t327 t330 bt334.1 bt338.1 bt338.2 bt342.1 bt342.2 true))) else (laws_FnWaysLeadOfAll.j11 kj249 a2 l3 a4 t326 t327 t330 bt334.1 bt338.1 bt338.2 bt342.1 bt342.2 true))))))))) = some r := H
    have A287 := Aside0.mk A2870
    clear A2870
    replace H := Option.bind_eq_some_iff.mp H
    obtain ⟨⟨t334, t335⟩, A2880, H⟩ := H
    replace H : ((spec_OtherEnd.f kj249 a2).bind fun bt336 => ((impl_MovesText.f kj249 l3).bind fun bt338 => ((spec_MovesText.f kj249 l3).bind fun bt340 => ((impl_ParseMoves.f kj249 a4).bind fun bt342 => ((spec_ParseMoves.f kj249 a4).bind fun bt346 => (if (t327 != t329) = true then (laws_FnWaysLeadOfAll.j11 kj249 a2 l3 a4 t326 t327 t330 t334 bt338.1 bt338.2 bt342.1 bt342.2 true) else (if t326 = t328 then (if (t331 != t333) = true then (laws_FnWaysLeadOfAll.j11 kj249 a2 l3 a4 t326 t327 t330 t334 bt338.1 bt338.2 bt342.1 bt342.2 true) else (if t330.toList = t332.toList then (if (t335 != bt336.2) = true then (laws_FnWaysLeadOfAll.j11 kj249 a2 l3 a4 t326 t327 t330 t334 bt338.1 bt338.2 bt342.1 bt342.2 true) else (if t334.toList = bt336.1.toList then (if (bt338.2 != bt340.2) = true then (laws_FnWaysLeadOfAll.j11 kj249 a2 l3 a4 t326 t327 t330 t334 bt338.1 bt338.2 bt342.1 bt342.2 true) else (if bt338.1.toList = bt340.1.toList then (if (bt342.2 != bt346.2) = true then (laws_FnWaysLeadOfAll.j11 kj249 a2 l3 a4 t326 t327 t330 t334 bt338.1 bt338.2 bt342.1 bt342.2 true) else ((laws_ySame.f kj249 bt342.1 bt346.1).bind fun t350 => (if t350 = true then (if (t331 != t327) = true then (laws_FnWaysLeadOfAll.j11 kj249 a2 l3 a4 t326 t327 t330 t334 bt338.1 bt338.2 bt342.1 bt342.2 true) else (laws_FnWaysLeadOfAll.j11 kj249 a2 l3 a4 t326 t327 t330 t334 bt338.1 bt338.2 bt342.1 bt342.2 (t335 != t327))) else (laws_FnWaysLeadOfAll.j11 kj249 a2 l3 a4 t326 t327 t330 t334 bt338.1 bt338.2 bt342.1 bt342.2 true)))) else (laws_FnWaysLeadOfAll.j11 kj249 a2 l3 a4 t326 t327 t330 t334 bt338.1 bt338.2 bt342.1 bt342.2 true))) else (laws_FnWaysLeadOfAll.j11 kj249 a2 l3 a4 t326 t327 t330 t334 bt338.1 bt338.2 bt342.1 bt342.2 true))) else (laws_FnWaysLeadOfAll.j11 kj249 a2 l3 a4 t326 t327 t330 t334 bt338.1 bt338.2 bt342.1 bt342.2 true))) else (laws_FnWaysLeadOfAll.j11 kj249 a2 l3 a4 t326 t327 t330 t334 bt338.1 bt338.2 bt342.1 bt342.2 true)))))))) = some r := H
    have A288 := Aside0.mk A2880
    clear A2880
    replace H := Option.bind_eq_some_iff.mp H
    obtain ⟨⟨t336, t337⟩, A2890, H⟩ := H
    replace H : ((impl_MovesText.f kj249 l3).bind fun bt338 => ((spec_MovesText.f kj249 l3).bind fun bt340 => ((impl_ParseMoves.f kj249 a4).bind fun bt342 => ((spec_ParseMoves.f kj249 a4).bind fun bt346 => (if (t327 != t329) = true then (laws_FnWaysLeadOfAll.j11 kj249 a2 l3 a4 t326 t327 t330 t334 bt338.1 bt338.2 bt342.1 bt342.2 true) else (if t326 = t328 then (if (t331 != t333) = true then (laws_FnWaysLeadOfAll.j11 kj249 a2 l3 a4 t326 t327 t330 t334 bt338.1 bt338.2 bt342.1 bt342.2 true) else (if t330.toList = t332.toList then (if (t335 != t337) = true then (laws_FnWaysLeadOfAll.j11 kj249 a2 l3 a4 t326 t327 t330 t334 bt338.1 bt338.2 bt342.1 bt342.2 true) else (if t334.toList = t336.toList then (if (bt338.2 != bt340.2) = true then (laws_FnWaysLeadOfAll.j11 kj249 a2 l3 a4 t326 t327 t330 t334 bt338.1 bt338.2 bt342.1 bt342.2 true) else (if bt338.1.toList = bt340.1.toList then (if (bt342.2 != bt346.2) = true then (laws_FnWaysLeadOfAll.j11 kj249 a2 l3 a4 t326 t327 t330 t334 bt338.1 bt338.2 bt342.1 bt342.2 true) else ((laws_ySame.f kj249 bt342.1 bt346.1).bind fun t350 => (if t350 = true then (if (t331 != t327) = true then (laws_FnWaysLeadOfAll.j11 kj249 a2 l3 a4 t326 t327 t330 t334 bt338.1 bt338.2 bt342.1 bt342.2 true) else (laws_FnWaysLeadOfAll.j11 kj249 a2 l3 a4 t326 t327 t330 t334 bt338.1 bt338.2 bt342.1 bt342.2 (t335 != t327))) else (laws_FnWaysLeadOfAll.j11 kj249 a2 l3 a4 t326 t327 t330 t334 bt338.1 bt338.2 bt342.1 bt342.2 true)))) else (laws_FnWaysLeadOfAll.j11 kj249 a2 l3 a4 t326 t327 t330 t334 bt338.1 bt338.2 bt342.1 bt342.2 true))) else (laws_FnWaysLeadOfAll.j11 kj249 a2 l3 a4 t326 t327 t330 t334 bt338.1 bt338.2 bt342.1 bt342.2 true))) else (laws_FnWaysLeadOfAll.j11 kj249 a2 l3 a4 t326 t327 t330 t334 bt338.1 bt338.2 bt342.1 bt342.2 true))) else (laws_FnWaysLeadOfAll.j11 kj249 a2 l3 a4 t326 t327 t330 t334 bt338.1 bt338.2 bt342.1 bt342.2 true))))))) = some r := H
    have A289 := Aside0.mk A2890
    clear A2890
    replace H := Option.bind_eq_some_iff.mp H
    obtain ⟨⟨t338, t339⟩, A2900, H⟩ := H
    replace H : ((spec_MovesText.f kj249 l3).bind fun bt340 => ((impl_ParseMoves.f kj249 a4).bind fun bt342 => ((spec_ParseMoves.f kj249 a4).bind fun bt346 => (if (t327 != t329) = true then (laws_FnWaysLeadOfAll.j11 kj249 a2 l3 a4 t326 t327 t330 t334 t338 t339 bt342.1 bt342.2 true) else (if t326 = t328 then (if (t331 != t333) = true then (laws_FnWaysLeadOfAll.j11 kj249 a2 l3 a4 t326 t327 t330 t334 t338 t339 bt342.1 bt342.2 true) else (if t330.toList = t332.toList then (if (t335 != t337) = true then (laws_FnWaysLeadOfAll.j11 kj249 a2 l3 a4 t326 t327 t330 t334 t338 t339 bt342.1 bt342.2 true) else (if t334.toList = t336.toList then (if (t339 != bt340.2) = true then (laws_FnWaysLeadOfAll.j11 kj249 a2 l3 a4 t326 t327 t330 t334 t338 t339 bt342.1 bt342.2 true) else (if t338.toList = bt340.1.toList then (if (bt342.2 != bt346.2) = true then (laws_FnWaysLeadOfAll.j11 kj249 a2 l3 a4 t326 t327 t330 t334 t338 t339 bt342.1 bt342.2 true) else ((laws_ySame.f kj249 bt342.1 bt346.1).bind fun t350 => (if t350 = true then (if (t331 != t327) = true then (laws_FnWaysLeadOfAll.j11 kj249 a2 l3 a4 t326 t327 t330 t334 t338 t339 bt342.1 bt342.2 true) else (laws_FnWaysLeadOfAll.j11 kj249 a2 l3 a4 t326 t327 t330 t334 t338 t339 bt342.1 bt342.2 (t335 != t327))) else (laws_FnWaysLeadOfAll.j11 kj249 a2 l3 a4 t326 t327 t330 t334 t338 t339 bt342.1 bt342.2 true)))) else (laws_FnWaysLeadOfAll.j11 kj249 a2 l3 a4 t326 t327 t330 t334 t338 t339 bt342.1 bt342.2 true))) else (laws_FnWaysLeadOfAll.j11 kj249 a2 l3 a4 t326 t327 t330 t334 t338 t339 bt342.1 bt342.2 true))) else (laws_FnWaysLeadOfAll.j11 kj249 a2 l3 a4 t326 t327 t330 t334 t338 t339 bt342.1 bt342.2 true))) else (laws_FnWaysLeadOfAll.j11 kj249 a2 l3 a4 t326 t327 t330 t334 t338 t339 bt342.1 bt342.2 true)))))) = some r := H
    have A290 := Aside0.mk A2900
    clear A2900
    replace H := Option.bind_eq_some_iff.mp H
    obtain ⟨⟨t340, t341⟩, A2910, H⟩ := H
    replace H : ((impl_ParseMoves.f kj249 a4).bind fun bt342 => ((spec_ParseMoves.f kj249 a4).bind fun bt346 => (if (t327 != t329) = true then (laws_FnWaysLeadOfAll.j11 kj249 a2 l3 a4 t326 t327 t330 t334 t338 t339 bt342.1 bt342.2 true) else (if t326 = t328 then (if (t331 != t333) = true then (laws_FnWaysLeadOfAll.j11 kj249 a2 l3 a4 t326 t327 t330 t334 t338 t339 bt342.1 bt342.2 true) else (if t330.toList = t332.toList then (if (t335 != t337) = true then (laws_FnWaysLeadOfAll.j11 kj249 a2 l3 a4 t326 t327 t330 t334 t338 t339 bt342.1 bt342.2 true) else (if t334.toList = t336.toList then (if (t339 != t341) = true then (laws_FnWaysLeadOfAll.j11 kj249 a2 l3 a4 t326 t327 t330 t334 t338 t339 bt342.1 bt342.2 true) else (if t338.toList = t340.toList then (if (bt342.2 != bt346.2) = true then (laws_FnWaysLeadOfAll.j11 kj249 a2 l3 a4 t326 t327 t330 t334 t338 t339 bt342.1 bt342.2 true) else ((laws_ySame.f kj249 bt342.1 bt346.1).bind fun t350 => (if t350 = true then (if (t331 != t327) = true then (laws_FnWaysLeadOfAll.j11 kj249 a2 l3 a4 t326 t327 t330 t334 t338 t339 bt342.1 bt342.2 true) else (laws_FnWaysLeadOfAll.j11 kj249 a2 l3 a4 t326 t327 t330 t334 t338 t339 bt342.1 bt342.2 (t335 != t327))) else (laws_FnWaysLeadOfAll.j11 kj249 a2 l3 a4 t326 t327 t330 t334 t338 t339 bt342.1 bt342.2 true)))) else (laws_FnWaysLeadOfAll.j11 kj249 a2 l3 a4 t326 t327 t330 t334 t338 t339 bt342.1 bt342.2 true))) else (laws_FnWaysLeadOfAll.j11 kj249 a2 l3 a4 t326 t327 t330 t334 t338 t339 bt342.1 bt342.2 true))) else (laws_FnWaysLeadOfAll.j11 kj249 a2 l3 a4 t326 t327 t330 t334 t338 t339 bt342.1 bt342.2 true))) else (laws_FnWaysLeadOfAll.j11 kj249 a2 l3 a4 t326 t327 t330 t334 t338 t339 bt342.1 bt342.2 true))))) = some r := H
    have A291 := Aside0.mk A2910
    clear A2910
    replace H := Option.bind_eq_some_iff.mp H
    obtain ⟨⟨t342, t343⟩, A2920, H⟩ := H
    replace H : ((spec_ParseMoves.f kj249 a4).bind fun bt346 => (if (t327 != t329) = true then (laws_FnWaysLeadOfAll.j11 kj249 a2 l3 a4 t326 t327 t330 t334 t338 t339 t342 t343 true) else (if t326 = t328 then (if (t331 != t333) = true then (laws_FnWaysLeadOfAll.j11 kj249 a2 l3 a4 t326 t327 t330 t334 t338 t339 t342 t343 true) else (if t330.toList = t332.toList then (if (t335 != t337) = true then (laws_FnWaysLeadOfAll.j11 kj249 a2 l3 a4 t326 t327 t330 t334 t338 t339 t342 t343 true) else (if t334.toList = t336.toList then (if (t339 != t341) = true then (laws_FnWaysLeadOfAll.j11 kj249 a2 l3 a4 t326 t327 t330 t334 t338 t339 t342 t343 true) else (if t338.toList = t340.toList then (if (t343 != bt346.2) = true then (laws_FnWaysLeadOfAll.j11 kj249 a2 l3 a4 t326 t327 t330 t334 t338 t339 t342 t343 true) else ((laws_ySame.f kj249 t342 bt346.1).bind fun t350 => (if t350 = true then (if (t331 != t327) = true then (laws_FnWaysLeadOfAll.j11 kj249 a2 l3 a4 t326 t327 t330 t334 t338 t339 t342 t343 true) else (laws_FnWaysLeadOfAll.j11 kj249 a2 l3 a4 t326 t327 t330 t334 t338 t339 t342 t343 (t335 != t327))) else (laws_FnWaysLeadOfAll.j11 kj249 a2 l3 a4 t326 t327 t330 t334 t338 t339 t342 t343 true)))) else (laws_FnWaysLeadOfAll.j11 kj249 a2 l3 a4 t326 t327 t330 t334 t338 t339 t342 t343 true))) else (laws_FnWaysLeadOfAll.j11 kj249 a2 l3 a4 t326 t327 t330 t334 t338 t339 t342 t343 true))) else (laws_FnWaysLeadOfAll.j11 kj249 a2 l3 a4 t326 t327 t330 t334 t338 t339 t342 t343 true))) else (laws_FnWaysLeadOfAll.j11 kj249 a2 l3 a4 t326 t327 t330 t334 t338 t339 t342 t343 true)))) = some r := H
    have A292 := Aside0.mk A2920
    clear A2920
    replace H := Option.bind_eq_some_iff.mp H
    obtain ⟨⟨t346, t347⟩, A2930, H⟩ := H
    replace H : (if (t327 != t329) = true then (laws_FnWaysLeadOfAll.j11 kj249 a2 l3 a4 t326 t327 t330 t334 t338 t339 t342 t343 true) else (if t326 = t328 then (if (t331 != t333) = true then (laws_FnWaysLeadOfAll.j11 kj249 a2 l3 a4 t326 t327 t330 t334 t338 t339 t342 t343 true) else (if t330.toList = t332.toList then (if (t335 != t337) = true then (laws_FnWaysLeadOfAll.j11 kj249 a2 l3 a4 t326 t327 t330 t334 t338 t339 t342 t343 true) else (if t334.toList = t336.toList then (if (t339 != t341) = true then (laws_FnWaysLeadOfAll.j11 kj249 a2 l3 a4 t326 t327 t330 t334 t338 t339 t342 t343 true) else (if t338.toList = t340.toList then (if (t343 != t347) = true then (laws_FnWaysLeadOfAll.j11 kj249 a2 l3 a4 t326 t327 t330 t334 t338 t339 t342 t343 true) else ((laws_ySame.f kj249 t342 t346).bind fun t350 => (if t350 = true then (if (t331 != t327) = true then (laws_FnWaysLeadOfAll.j11 kj249 a2 l3 a4 t326 t327 t330 t334 t338 t339 t342 t343 true) else (laws_FnWaysLeadOfAll.j11 kj249 a2 l3 a4 t326 t327 t330 t334 t338 t339 t342 t343 (t335 != t327))) else (laws_FnWaysLeadOfAll.j11 kj249 a2 l3 a4 t326 t327 t330 t334 t338 t339 t342 t343 true)))) else (laws_FnWaysLeadOfAll.j11 kj249 a2 l3 a4 t326 t327 t330 t334 t338 t339 t342 t343 true))) else (laws_FnWaysLeadOfAll.j11 kj249 a2 l3 a4 t326 t327 t330 t334 t338 t339 t342 t343 true))) else (laws_FnWaysLeadOfAll.j11 kj249 a2 l3 a4 t326 t327 t330 t334 t338 t339 t342 t343 true))) else (laws_FnWaysLeadOfAll.j11 kj249 a2 l3 a4 t326 t327 t330 t334 t338 t339 t342 t343 true))) = some r := H
    have A293 := Aside0.mk A2930
    clear A2930
    have HC294 := Aside0.mk H
    clear H
    go_upto_region 60 with (first | ((with_reducible refine gate_callee (f := 20) rfl ?_); refine goesL_ (some 452) rfl rfl Tryd.func20 (by kernel_rfl) rfl #[.int .i64 a2] rfl (by (try simp only [List.map_toArray, List.map_cons, List.map_nil]); first | done | rfl | (simp only [List.length_drop, List.length_take]; rfl)) ?_; (with_reducible refine (impl_MovesToClear.calls kj249 a2 t326 t327 _ A284.out).mono ?_); rintro e w295 ⟨rfl, hb⟩; refine ⟨_, rfl, ?_⟩; have n0_ := Aside0.mk (below_step (by repeat (first | (with_reducible first | exact HB.out | apply below_alloc | apply pw_below_drewN | apply below_drew1) | exact HB.out)) hb); clear HB; have HB := n0_; clear n0_; (try clear hb); (try clear hb2); (try clear hk); (try clear hi)) | ((with_reducible refine gate_callee (f := 21) rfl ?_); refine goesL_ (some 457) rfl rfl Tryd.func21 (by kernel_rfl) rfl #[.int .i64 a2] rfl (by (try simp only [List.map_toArray, List.map_cons, List.map_nil]); first | done | rfl | (simp only [List.length_drop, List.length_take]; rfl)) ?_; (with_reducible refine (spec_MovesToClear.calls kj249 a2 t328 t329 _ A285.out).mono ?_); rintro e w' ⟨rfl, ⟨nd, rfl⟩⟩; refine ⟨_, rfl, ?_⟩) | ((with_reducible refine gate_callee (f := 22) rfl ?_); refine goesL_ (some 462) rfl rfl Tryd.func22 (by kernel_rfl) rfl #[.int .i64 a2] rfl (by (try simp only [List.map_toArray, List.map_cons, List.map_nil]); first | done | rfl | (simp only [List.length_drop, List.length_take]; rfl)) ?_; (with_reducible refine (impl_AllOn.calls a2 t330 t331 _ A286.out).mono ?_); rintro e w296 ⟨rfl, hb⟩; refine ⟨_, rfl, ?_⟩; have n0_ := Aside0.mk (below_step (by repeat (first | (with_reducible first | exact HB.out | apply below_alloc | apply pw_below_drewN | apply below_drew1) | exact HB.out)) hb); clear HB; have HB := n0_; clear n0_; (try clear hb); (try clear hb2); (try clear hk); (try clear hi)) | ((with_reducible refine gate_callee (f := 23) rfl ?_); refine goesL_ (some 467) rfl rfl Tryd.func23 (by kernel_rfl) rfl #[.int .i64 a2] rfl (by (try simp only [List.map_toArray, List.map_cons, List.map_nil]); first | done | rfl | (simp only [List.length_drop, List.length_take]; rfl)) ?_; (with_reducible refine (spec_AllOn.calls kj249 a2 t332 t333 _ A287.out).mono ?_); rintro e w' ⟨rfl, ⟨nd, rfl⟩⟩; refine ⟨_, rfl, ?_⟩) | ((with_reducible refine gate_callee (f := 24) rfl ?_); refine goesL_ (some 472) rfl rfl Tryd.func24 (by kernel_rfl) rfl #[.int .i64 a2] rfl (by (try simp only [List.map_toArray, List.map_cons, List.map_nil]); first | done | rfl | (simp only [List.length_drop, List.length_take]; rfl)) ?_; (with_reducible refine (impl_OtherEnd.calls kj249 a2 t334 t335 _ A288.out).mono ?_); rintro e w297 ⟨rfl, hb⟩; refine ⟨_, rfl, ?_⟩; have n0_ := Aside0.mk (below_step (by repeat (first | (with_reducible first | exact HB.out | apply below_alloc | apply pw_below_drewN | apply below_drew1) | exact HB.out)) hb); clear HB; have HB := n0_; clear n0_; (try clear hb); (try clear hb2); (try clear hk); (try clear hi)) | ((with_reducible refine gate_callee (f := 25) rfl ?_); refine goesL_ (some 477) rfl rfl Tryd.func25 (by kernel_rfl) rfl #[.int .i64 a2] rfl (by (try simp only [List.map_toArray, List.map_cons, List.map_nil]); first | done | rfl | (simp only [List.length_drop, List.length_take]; rfl)) ?_; (with_reducible refine (spec_OtherEnd.calls kj249 a2 t336 t337 _ A289.out).mono ?_); rintro e w' ⟨rfl, ⟨nd, rfl⟩⟩; refine ⟨_, rfl, ?_⟩) | ((with_reducible refine gate_callee (f := 26) rfl ?_); refine goesL_ (some 482) rfl rfl Tryd.func26 (by kernel_rfl) rfl #[.slice A3 l3.length c3] rfl (by (try simp only [List.map_toArray, List.map_cons, List.map_nil]); first | done | rfl | (simp only [List.length_drop, List.length_take]; rfl)) ?_; (with_reducible refine (impl_MovesText.calls kj249 _ _ l3 t338 t339 _ ?side1 ?side2 A290.out).mono ?_); (case side1 => repeat (first | exact (Kd.C_below HR3.out (by repeat (first | (with_reducible first | exact HB.out | apply below_alloc | apply pw_below_drewN | apply below_drew1) | exact HB.out))) | (with_reducible refine Kd.C_alloc ?_ _) | (with_reducible refine Kd.C_drewN ?_ _) | (with_reducible refine Kd.C_drew ?_))); (case side2 => exact HC3.out); rintro e w298 ⟨rfl, hb⟩; refine ⟨_, rfl, ?_⟩; have n0_ := Aside0.mk (below_step (by repeat (first | (with_reducible first | exact HB.out | apply below_alloc | apply pw_below_drewN | apply below_drew1) | exact HB.out)) hb); clear HB; have HB := n0_; clear n0_; (try clear hb); (try clear hb2); (try clear hk); (try clear hi)) | ((with_reducible refine gate_callee (f := 27) rfl ?_); refine goesL_ (some 487) rfl rfl Tryd.func27 (by kernel_rfl) rfl #[.slice A3 l3.length c3] rfl (by (try simp only [List.map_toArray, List.map_cons, List.map_nil]); first | done | rfl | (simp only [List.length_drop, List.length_take]; rfl)) ?_; (with_reducible refine (spec_MovesText.calls kj249 _ _ l3 t340 t341 _ ?side1 ?side2 A291.out).mono ?_); (case side1 => repeat (first | exact (Kd.C_below HR3.out HB.out) | (with_reducible refine Kd.C_alloc ?_ _) | (with_reducible refine Kd.C_drewN ?_ _) | (with_reducible refine Kd.C_drew ?_))); (case side2 => exact HC3.out); rintro e w' ⟨rfl, ⟨nd, rfl⟩⟩; refine ⟨_, rfl, ?_⟩) | ((with_reducible refine gate_callee (f := 28) rfl ?_); refine goesL_ (some 492) rfl rfl Tryd.func28 (by kernel_rfl) rfl #[.string a4] rfl (by (try simp only [List.map_toArray, List.map_cons, List.map_nil]); first | done | rfl | (simp only [List.length_drop, List.length_take]; rfl)) ?_; (with_reducible refine (impl_ParseMoves.calls kj249 a4 t342 t343 _ A292.out).mono ?_); rintro e w299 ⟨v344, rfl, ho0, hb⟩; refine ⟨_, rfl, ?_⟩; have n0_ := Aside0.mk (Kd.R_lower ho0 (below_size (by repeat (first | (with_reducible first | exact HB.out | apply below_alloc | apply pw_below_drewN | apply below_drew1) | exact HB.out)))); have n1_ := Aside0.mk (below_step (by repeat (first | (with_reducible first | exact HB.out | apply below_alloc | apply pw_below_drewN | apply below_drew1) | exact HB.out)) hb); clear HB; have HO345 := n0_; have HB := n1_; clear n0_ n1_; (try clear hb); (try clear hb2); (try clear hk); (try clear hi); (try clear ho0)) | ((with_reducible refine gate_callee (f := 29) rfl ?_); refine goesL_ (some 497) rfl rfl Tryd.func29 (by kernel_rfl) rfl #[.string a4] rfl (by (try simp only [List.map_toArray, List.map_cons, List.map_nil]); first | done | rfl | (simp only [List.length_drop, List.length_take]; rfl)) ?_; (with_reducible refine (spec_ParseMoves.calls kj249 a4 t346 t347 _ A293.out).mono ?_); rintro e w300 ⟨v348, rfl, ho0, hb⟩; refine ⟨_, rfl, ?_⟩; have n0_ := Aside0.mk (Kd.R_elder' (by (with_reducible repeat (first | apply Kd.R_alloc | apply Kd.R_drewN | apply Kd.R_drew)); exact HO345.out) (Kd.R_base ho0) hb); have n1_ := Aside0.mk (Kd.R_lower (Kd.R_new' ho0 (Kd.R_lt (by (with_reducible repeat (first | apply Kd.R_alloc | apply Kd.R_drewN | apply Kd.R_drew)); exact HO345.out))) (below_size (by repeat (first | (with_reducible first | exact HB.out | apply below_alloc | apply pw_below_drewN | apply below_drew1) | exact HB.out)))); have n2_ := Aside0.mk (below_step (by repeat (first | (with_reducible first | exact HB.out | apply below_alloc | apply pw_below_drewN | apply below_drew1) | exact HB.out)) hb); clear HO345; clear HB; have HO345 := n0_; have HO349 := n1_; have HB := n2_; clear n0_ n1_ n2_; (try clear hb); (try clear hb2); (try clear hk); (try clear hi); (try clear ho0)))
    (try simp only [Act.put, List.setIfInBounds_toArray, List.set_cons_zero, List.set_cons_succ])
    refine wp_cutF [o_,o_,o_,o_,o_,o_,o_,o_,o_,o_,o_,o_,o_,o_,o_,o_,o_,o_,o_,o_,o_,o_,o_,o_,o_,o_,o_,o_,o_,o_,o_,o_,o_,o_,o_,o_,o_,o_,o_,o_,o_,o_,o_,o_,o_,o_,o_,o_,o_,o_,o_,o_,o_,o_,o_,o_,o_,o_,o_,o_,o_,o_,o_,o_,o_,o_,o_,o_,o_,o_,o_,o_,o_,o_,o_,o_,o_,o_,o_,o_,o_,i_,i_,i_,i_,i_,i_,i_,i_,i_,i_,i_,i_,i_,i_,i_,i_,i_,i_,i_,i_,i_,i_,i_,i_,i_,i_,i_,i_,i_,i_,i_,i_,i_,i_,i_,i_,i_,i_,i_,i_,i_,i_,i_,i_,i_,i_,i_,i_,i_,i_,i_,i_,i_,i_,i_,i_,i_,i_,i_,i_,i_,i_,i_,i_,i_,i_,i_,i_,i_,i_,i_,i_,i_,i_,i_,i_,i_,i_,i_,i_,i_,i_,i_,i_,i_,i_,i_,i_,i_,i_,i_,i_,i_,i_,i_,i_,i_,i_,i_,i_,i_,i_,i_,i_,i_,i_,i_,i_,i_,i_,i_,i_,i_,i_,i_,i_,i_,i_,i_,i_,i_,i_,i_,i_,i_,i_,i_,i_,i_,i_,i_,i_,i_,i_,i_,i_,i_,i_,i_,i_,i_,i_,i_,i_,i_,i_,i_,i_,i_,i_,i_,i_,i_,i_,i_,i_,i_,i_,i_,i_,i_,i_,i_,i_,i_,i_,i_,i_,i_,i_,i_,i_,i_,i_,i_,i_,i_,i_,i_,i_,i_,i_,i_,i_,i_,i_,i_,i_,i_,i_,i_,i_,i_,i_,i_,i_,i_,i_,i_,i_,i_,i_,i_,i_,i_,i_,i_,i_,i_,i_,i_,i_,i_,i_,i_,i_,i_,i_,i_,i_,i_,i_,i_,i_,i_,i_,i_,i_,i_,i_,i_,i_,i_,i_,i_,i_,i_,i_,i_,i_,i_,i_,i_,i_,i_,i_,i_,i_,i_,i_,i_,i_,i_,i_,i_,i_,i_,i_,i_,i_,i_,i_,i_,i_,i_,i_,i_,i_,i_,i_,i_,i_,i_,i_,i_,i_,i_,i_,i_,i_,i_,i_,i_,i_,i_,i_,i_,i_,i_,i_,i_,i_,i_,i_,i_,i_,o_,o_,o_,i_,i_,i_,i_,o_,o_,o_,i_,i_,i_,i_,i_,i_,i_,i_,i_,i_,i_,i_,i_,i_,i_,i_,i_,i_,i_,i_,i_,i_,i_,i_,i_,i_,i_,i_,i_,i_,i_,i_,i_,i_,i_,i_,i_,i_,i_,i_,i_,i_,i_,i_,i_,i_,i_,i_,i_,i_,i_,i_,i_,i_,i_,i_,i_,i_,i_,i_,i_,i_,i_,i_,i_,i_,i_,i_,i_,i_,i_,i_,i_,i_,i_,i_,i_,i_,i_,i_,i_,i_,i_,i_,i_,i_,i_,i_,i_,i_,i_,i_,i_,i_,i_,i_,i_,i_,i_,i_,i_,i_,i_,i_,i_,i_,i_,i_,i_,i_,i_,i_,i_,i_,i_,i_,i_,i_,i_,i_,i_,i_,i_,i_,i_,i_,i_,i_,i_,i_,i_,i_,i_,i_,i_,i_,i_,i_,i_,i_,i_,i_,i_,i_,i_,i_,i_,i_,i_,i_,i_,i_,i_,i_,i_,i_,i_,i_,i_,i_,i_,i_,i_,i_,i_,i_,i_,i_,i_,i_,i_,i_,i_,i_,i_,i_,i_,i_,i_,i_,i_,i_,i_,i_,i_,i_,i_,i_,i_,i_,i_,i_,i_,i_,i_,i_,i_,i_,i_,i_,i_,i_,i_,i_,i_,i_,i_,i_,i_,i_,i_,i_,i_,i_,i_,i_,i_,i_,i_,i_,i_,i_,i_,i_,i_,i_,i_,i_,i_,i_,i_,i_,i_,i_,i_] (fun f_ wc => ∃ (kq : Nat) (x558_293 : Bool), (f_ 558) = .bool x558_293 ∧ Aside0 (laws_FnWaysLeadOfAll.j11 kq a2 l3 a4 t326 t327 t330 t334 t338 t339 t342 t343 x558_293 = some r) ∧ Aside0 (kq ≤ kj249) ∧ Aside0 (Kd.R (Kd.int .i64) 3 wc w.heap.size (fun _ => True) v344 t342) ∧ Aside0 (Below w.heap.size w wc)) ?rest ?first
    case first =>
      intro J_ K_ hJ_ hK_
      repeat revert ‹_›
      intro HP0_ HP1_
      exact HP0_.out
    case rest =>
      intro f_ wc hcut
      dsimp only [maskF] at hcut ⊢
      generalize f_ 558 = u558 at hcut ⊢
      repeat revert ‹_›
      intro HP0_ HP1_
      exact HP1_.out

set_option maxHeartbeats 8000000 in
set_option maxRecDepth 100000 in
theorem laws_FnWaysLeadOfAll.c19 : laws_FnWaysLeadOfAll.c18.1 := by
  intro k a0 a1 a2 A3 c3 l3 a4 r w HR3 HC3 _ _ _ _ kj5 HJ5 t264 t265 A11 t268 t269 A12 t272 t273 A13 t274 t275 A14 t276 t277 A15 t278 t279 A16 t280 t281 A17 t284 t285 A18 t288 t289 A19 t290 t291 A20 t292 t293 A21 t296 t297 A22 w24 v266 w25 v270 w26 _ w27 w28 w29 v282 w30 v286 w31 _ w32 v294 w33 v298 HO267 HO271 HO283 HO287 HO295 HO299 _ _ _ _ _ _ _ kj22 HJ22 _ _ HO_11 _ HO_31 _ kj152 HJ152 _ _ HO_23 _ kj228 HJ228 f_ wc kj249 HJ249 t326 t327 A284 t328 t329 A285 t330 t331 A286 t332 t333 A287 t334 t335 A288 t336 t337 A289 t338 t339 A290 t340 t341 A291 t342 t343 A292 t346 t347 A293 HC294 w295 _ w296 _ w297 _ w298 nd w299 v344 w300 v348 HO345 HO349 HB _ _ _ _ J_ K_ hJ_ hK_
  have H := HC294.out
  clear HC294
  by_cases c301 : (t327 != t329) = true
  · rw [if_pos c301] at H
    have c301b0 : (t327 != t329) = true := c301
    (try (have c301b1 : decide (t327 = t329) = false := by simpa using c301))
    (try (have c301b2 : (t327 == t329) = false := by simpa using c301))
    (try (have c301b3 : ¬ (t327 = t329) := by simpa using c301))
    clear c301
    (first | rw [c301b0] | (simp only [i64_w, i32_w]; rw [c301b0]) | skip)
    have H' := Aside0.mk H
    clear H
    go_wp2
    refine Met.intro (hJ_ _ _ ?mg_ ?rel)
    case mg_ => kernel_rfl
    case rel => exact ⟨_, (true), (by first | rfl | ((conv => lhs; whnf); first | rfl | (simp; done) | (simp [*]; done))), H', ⟨by have := HJ5.out; have := HJ22.out; have := HJ152.out; have := HJ228.out; have := HJ249.out; first | omega | exact Nat.le_refl _⟩, ⟨by (with_reducible repeat (first | apply Kd.R_alloc | apply Kd.R_drewN | apply Kd.R_drew)); exact Kd.R_mono HO345.out (fun _ hk => trivial)⟩, ⟨by repeat (first | (with_reducible first | exact HB.out | apply below_alloc | apply pw_below_drewN | apply below_drew1) | exact HB.out)⟩⟩
  · rw [if_neg c301] at H
    have c301b0 : (t327 != t329) = false := by simpa using c301
    (try (have c301b1 : decide (t327 = t329) = true := by simpa using c301))
    (try (have c301b2 : (t327 == t329) = true := by simpa using c301))
    clear c301
    (try (have c301e : t327 = t329 := by first | simpa using c301b0 | (simpa using (bne_eq_false_iff_eq.mp c301b0).symm)); (subst c301e))
    (first | rw [c301b0] | (simp only [i64_w, i32_w]; rw [c301b0]) | skip)
    by_cases c302 : t326 = t328
    · rw [if_pos c302] at H
      have c302b0 : (t326 == t328) = true := beq_iff_eq.mpr c302
      have c302b1 : (t326 != t328) = false := bne_eq_false_iff_eq.mpr c302
      clear c302
      by_cases c303 : (t331 != t333) = true
      · rw [if_pos c303] at H
        have c303b0 : (t331 != t333) = true := c303
        (try (have c303b1 : decide (t331 = t333) = false := by simpa using c303))
        (try (have c303b2 : (t331 == t333) = false := by simpa using c303))
        (try (have c303b3 : ¬ (t331 = t333) := by simpa using c303))
        clear c303
        have H' := Aside0.mk H
        clear H
        go_wp2
        refine Met.intro (hJ_ _ _ ?mg_ ?rel)
        case mg_ => kernel_rfl
        case rel => exact ⟨_, (true), (by first | rfl | ((conv => lhs; whnf); first | rfl | (simp; done) | (simp [*]; done))), H', ⟨by have := HJ5.out; have := HJ22.out; have := HJ152.out; have := HJ228.out; have := HJ249.out; first | omega | exact Nat.le_refl _⟩, ⟨by (with_reducible repeat (first | apply Kd.R_alloc | apply Kd.R_drewN | apply Kd.R_drew)); exact Kd.R_mono HO345.out (fun _ hk => trivial)⟩, ⟨by repeat (first | (with_reducible first | exact HB.out | apply below_alloc | apply pw_below_drewN | apply below_drew1) | exact HB.out)⟩⟩
      · rw [if_neg c303] at H
        have c303b0 : (t331 != t333) = false := by simpa using c303
        (try (have c303b1 : decide (t331 = t333) = true := by simpa using c303))
        (try (have c303b2 : (t331 == t333) = true := by simpa using c303))
        clear c303
        (try (have c303e : t331 = t333 := by first | simpa using c303b0 | (simpa using (bne_eq_false_iff_eq.mp c303b0).symm)); (subst c303e))
        by_cases c304 : t330.toList = t332.toList
        · rw [if_pos c304] at H
          have c304b0 : (t330.toList == t332.toList) = true := beq_iff_eq.mpr c304
          have c304b1 : (t330.toList != t332.toList) = false := bne_eq_false_iff_eq.mpr c304
          (try (have c304n1 : (!(t330.toList == t332.toList)) = false := c304b1))
          clear c304
          by_cases c305 : (t335 != t337) = true
          · rw [if_pos c305] at H
            have c305b0 : (t335 != t337) = true := c305
            (try (have c305b1 : decide (t335 = t337) = false := by simpa using c305))
            (try (have c305b2 : (t335 == t337) = false := by simpa using c305))
            (try (have c305b3 : ¬ (t335 = t337) := by simpa using c305))
            clear c305
            have H' := Aside0.mk H
            clear H
            go_wp2
            refine Met.intro (hJ_ _ _ ?mg_ ?rel)
            case mg_ => kernel_rfl
            case rel => exact ⟨_, (true), (by first | rfl | ((conv => lhs; whnf); first | rfl | (simp; done) | (simp [*]; done))), H', ⟨by have := HJ5.out; have := HJ22.out; have := HJ152.out; have := HJ228.out; have := HJ249.out; first | omega | exact Nat.le_refl _⟩, ⟨by (with_reducible repeat (first | apply Kd.R_alloc | apply Kd.R_drewN | apply Kd.R_drew)); exact Kd.R_mono HO345.out (fun _ hk => trivial)⟩, ⟨by repeat (first | (with_reducible first | exact HB.out | apply below_alloc | apply pw_below_drewN | apply below_drew1) | exact HB.out)⟩⟩
          · rw [if_neg c305] at H
            have c305b0 : (t335 != t337) = false := by simpa using c305
            (try (have c305b1 : decide (t335 = t337) = true := by simpa using c305))
            (try (have c305b2 : (t335 == t337) = true := by simpa using c305))
            clear c305
            (try (have c305e : t335 = t337 := by first | simpa using c305b0 | (simpa using (bne_eq_false_iff_eq.mp c305b0).symm)); (subst c305e))
            by_cases c306 : t334.toList = t336.toList
            · rw [if_pos c306] at H
              have c306b0 : (t334.toList == t336.toList) = true := beq_iff_eq.mpr c306
              have c306b1 : (t334.toList != t336.toList) = false := bne_eq_false_iff_eq.mpr c306
              (try (have c306n1 : (!(t334.toList == t336.toList)) = false := c306b1))
              clear c306
              by_cases c307 : (t339 != t341) = true
              · rw [if_pos c307] at H
                have c307b0 : (t339 != t341) = true := c307
                (try (have c307b1 : decide (t339 = t341) = false := by simpa using c307))
                (try (have c307b2 : (t339 == t341) = false := by simpa using c307))
                (try (have c307b3 : ¬ (t339 = t341) := by simpa using c307))
                clear c307
                have H' := Aside0.mk H
                clear H
                go_wp2
                refine Met.intro (hJ_ _ _ ?mg_ ?rel)
                case mg_ => kernel_rfl
                case rel => exact ⟨_, (true), (by first | rfl | ((conv => lhs; whnf); first | rfl | (simp; done) | (simp [*]; done))), H', ⟨by have := HJ5.out; have := HJ22.out; have := HJ152.out; have := HJ228.out; have := HJ249.out; first | omega | exact Nat.le_refl _⟩, ⟨by (with_reducible repeat (first | apply Kd.R_alloc | apply Kd.R_drewN | apply Kd.R_drew)); exact Kd.R_mono HO345.out (fun _ hk => trivial)⟩, ⟨by repeat (first | (with_reducible first | exact HB.out | apply below_alloc | apply pw_below_drewN | apply below_drew1) | exact HB.out)⟩⟩
              · rw [if_neg c307] at H
                have c307b0 : (t339 != t341) = false := by simpa using c307
                (try (have c307b1 : decide (t339 = t341) = true := by simpa using c307))
                (try (have c307b2 : (t339 == t341) = true := by simpa using c307))
                clear c307
                (try (have c307e : t339 = t341 := by first | simpa using c307b0 | (simpa using (bne_eq_false_iff_eq.mp c307b0).symm)); (subst c307e))
                by_cases c308 : t338.toList = t340.toList
                · rw [if_pos c308] at H
                  have c308b0 : (t338.toList == t340.toList) = true := beq_iff_eq.mpr c308
                  have c308b1 : (t338.toList != t340.toList) = false := bne_eq_false_iff_eq.mpr c308
                  (try (have c308n1 : (!(t338.toList == t340.toList)) = false := c308b1))
                  clear c308
                  by_cases c309 : (t343 != t347) = true
                  · rw [if_pos c309] at H
                    have c309b0 : (t343 != t347) = true := c309
                    (try (have c309b1 : decide (t343 = t347) = false := by simpa using c309))
                    (try (have c309b2 : (t343 == t347) = false := by simpa using c309))
                    (try (have c309b3 : ¬ (t343 = t347) := by simpa using c309))
                    clear c309
                    have H' := Aside0.mk H
                    clear H
                    go_wp2
                    refine Met.intro (hJ_ _ _ ?mg_ ?rel)
                    case mg_ => kernel_rfl
                    case rel => exact ⟨_, (true), (by first | rfl | ((conv => lhs; whnf); first | rfl | (simp; done) | (simp [*]; done))), H', ⟨by have := HJ5.out; have := HJ22.out; have := HJ152.out; have := HJ228.out; have := HJ249.out; first | omega | exact Nat.le_refl _⟩, ⟨by (with_reducible repeat (first | apply Kd.R_alloc | apply Kd.R_drewN | apply Kd.R_drew)); exact Kd.R_mono HO345.out (fun _ hk => trivial)⟩, ⟨by repeat (first | (with_reducible first | exact HB.out | apply below_alloc | apply pw_below_drewN | apply below_drew1) | exact HB.out)⟩⟩
                  · rw [if_neg c309] at H
                    have c309b0 : (t343 != t347) = false := by simpa using c309
                    (try (have c309b1 : decide (t343 = t347) = true := by simpa using c309))
                    (try (have c309b2 : (t343 == t347) = true := by simpa using c309))
                    clear c309
                    (try (have c309e : t343 = t347 := by first | simpa using c309b0 | (simpa using (bne_eq_false_iff_eq.mp c309b0).symm)); (subst c309e))
                    replace H := Option.bind_eq_some_iff.mp H
                    obtain ⟨t350, A3100, H⟩ := H
                    replace H : (if t350 = true then (if (t331 != t327) = true then (laws_FnWaysLeadOfAll.j11 kj249 a2 l3 a4 t326 t327 t330 t334 t338 t339 t342 t343 true) else (laws_FnWaysLeadOfAll.j11 kj249 a2 l3 a4 t326 t327 t330 t334 t338 t339 t342 t343 (t335 != t327))) else (laws_FnWaysLeadOfAll.j11 kj249 a2 l3 a4 t326 t327 t330 t334 t338 t339 t342 t343 true)) = some r := H
                    have A310 := Aside0.mk A3100
                    clear A3100
                    by_cases c311 : t350 = true
                    · subst c311
                      have H1 : (if (t331 != t327) = true then (laws_FnWaysLeadOfAll.j11 kj249 a2 l3 a4 t326 t327 t330 t334 t338 t339 t342 t343 true) else (laws_FnWaysLeadOfAll.j11 kj249 a2 l3 a4 t326 t327 t330 t334 t338 t339 t342 t343 (t335 != t327))) = some r := by rw [if_pos rfl] at H; exact H
                      clear H
                      have H := H1
                      clear H1
                      by_cases c312 : (t331 != t327) = true
                      · rw [if_pos c312] at H
                        have c312b0 : (t331 != t327) = true := c312
                        (try (have c312b1 : decide (t331 = t327) = false := by simpa using c312))
                        (try (have c312b2 : (t331 == t327) = false := by simpa using c312))
                        (try (have c312b3 : ¬ (t331 = t327) := by simpa using c312))
                        clear c312
                        have H' := Aside0.mk H
                        clear H
                        obtain ⟨Ao313, co313, eo313⟩ := Kd.R_slice HO345.out
                        subst eo313
                        obtain ⟨Ao314, co314, eo314⟩ := Kd.R_slice HO349.out
                        subst eo314
                        go_wp2_with (first | (go_at_call 16; (with_reducible refine (laws_ySame.calls kj249 _ _ t342 _ _ t346 true _ ?side1 ?side2 ?side3 ?side4 A310.out).mono ?_); (case side1 => repeat (first | exact (Kd.R_reads' HO345.out).2.2 | (with_reducible refine Kd.C_alloc ?_ _) | (with_reducible refine Kd.C_drewN ?_ _) | (with_reducible refine Kd.C_drew ?_))); (case side2 => exact (Kd.R_reads' HO345.out).2.1); (case side3 => repeat (first | exact (Kd.R_reads' HO349.out).2.2 | (with_reducible refine Kd.C_alloc ?_ _) | (with_reducible refine Kd.C_drewN ?_ _) | (with_reducible refine Kd.C_drew ?_))); (case side4 => exact (Kd.R_reads' HO349.out).2.1); rintro e w' ⟨rfl, ⟨nd, rfl⟩⟩))
                        refine Met.intro (hJ_ _ _ ?mg_ ?rel)
                        case mg_ => kernel_rfl
                        case rel => exact ⟨_, (true), (by first | rfl | ((conv => lhs; whnf); first | rfl | (simp; done) | (simp [*]; done))), H', ⟨by have := HJ5.out; have := HJ22.out; have := HJ152.out; have := HJ228.out; have := HJ249.out; first | omega | exact Nat.le_refl _⟩, ⟨by (with_reducible repeat (first | apply Kd.R_alloc | apply Kd.R_drewN | apply Kd.R_drew)); exact Kd.R_mono HO345.out (fun _ hk => trivial)⟩, ⟨by repeat (first | (with_reducible first | exact HB.out | apply below_alloc | apply pw_below_drewN | apply below_drew1) | exact HB.out)⟩⟩
                      · rw [if_neg c312] at H
                        have c312b0 : (t331 != t327) = false := by simpa using c312
                        (try (have c312b1 : decide (t331 = t327) = true := by simpa using c312))
                        (try (have c312b2 : (t331 == t327) = true := by simpa using c312))
                        clear c312
                        (try (have c312e : t327 = t331 := by first | simpa using c312b0 | (simpa using (bne_eq_false_iff_eq.mp c312b0).symm)); (subst c312e))
                        have H' := Aside0.mk H
                        clear H
                        obtain ⟨Ao315, co315, eo315⟩ := Kd.R_slice HO345.out
                        subst eo315
                        obtain ⟨Ao316, co316, eo316⟩ := Kd.R_slice HO349.out
                        subst eo316
                        go_wp2_with (first | (go_at_call 16; (with_reducible refine (laws_ySame.calls kj249 _ _ t342 _ _ t346 true _ ?side1 ?side2 ?side3 ?side4 A310.out).mono ?_); (case side1 => repeat (first | exact (Kd.R_reads' HO345.out).2.2 | (with_reducible refine Kd.C_alloc ?_ _) | (with_reducible refine Kd.C_drewN ?_ _) | (with_reducible refine Kd.C_drew ?_))); (case side2 => exact (Kd.R_reads' HO345.out).2.1); (case side3 => repeat (first | exact (Kd.R_reads' HO349.out).2.2 | (with_reducible refine Kd.C_alloc ?_ _) | (with_reducible refine Kd.C_drewN ?_ _) | (with_reducible refine Kd.C_drew ?_))); (case side4 => exact (Kd.R_reads' HO349.out).2.1); rintro e w' ⟨rfl, ⟨nd, rfl⟩⟩))
                        refine Met.intro (hJ_ _ _ ?mg_ ?rel)
                        case mg_ => kernel_rfl
                        case rel => exact ⟨_, ((t335 != t327)), (by first | rfl | ((conv => lhs; whnf); first | rfl | (simp; done) | (simp [*]; done))), H', ⟨by have := HJ5.out; have := HJ22.out; have := HJ152.out; have := HJ228.out; have := HJ249.out; first | omega | exact Nat.le_refl _⟩, ⟨by (with_reducible repeat (first | apply Kd.R_alloc | apply Kd.R_drewN | apply Kd.R_drew)); exact Kd.R_mono HO345.out (fun _ hk => trivial)⟩, ⟨by repeat (first | (with_reducible first | exact HB.out | apply below_alloc | apply pw_below_drewN | apply below_drew1) | exact HB.out)⟩⟩
                    · replace c311 := Bool.eq_false_iff.mpr c311
                      subst c311
                      have H1 : (laws_FnWaysLeadOfAll.j11 kj249 a2 l3 a4 t326 t327 t330 t334 t338 t339 t342 t343 true) = some r := by rw [if_neg (show ¬ (false = true) by decide)] at H; exact H
                      clear H
                      have H := H1
                      clear H1
                      have H' := Aside0.mk H
                      clear H
                      obtain ⟨Ao317, co317, eo317⟩ := Kd.R_slice HO345.out
                      subst eo317
                      obtain ⟨Ao318, co318, eo318⟩ := Kd.R_slice HO349.out
                      subst eo318
                      go_wp2_with (first | (go_at_call 16; (with_reducible refine (laws_ySame.calls kj249 _ _ t342 _ _ t346 false _ ?side1 ?side2 ?side3 ?side4 A310.out).mono ?_); (case side1 => repeat (first | exact (Kd.R_reads' HO345.out).2.2 | (with_reducible refine Kd.C_alloc ?_ _) | (with_reducible refine Kd.C_drewN ?_ _) | (with_reducible refine Kd.C_drew ?_))); (case side2 => exact (Kd.R_reads' HO345.out).2.1); (case side3 => repeat (first | exact (Kd.R_reads' HO349.out).2.2 | (with_reducible refine Kd.C_alloc ?_ _) | (with_reducible refine Kd.C_drewN ?_ _) | (with_reducible refine Kd.C_drew ?_))); (case side4 => exact (Kd.R_reads' HO349.out).2.1); rintro e w' ⟨rfl, ⟨nd, rfl⟩⟩))
                      refine Met.intro (hJ_ _ _ ?mg_ ?rel)
                      case mg_ => kernel_rfl
                      case rel => exact ⟨_, (true), (by first | rfl | ((conv => lhs; whnf); first | rfl | (simp; done) | (simp [*]; done))), H', ⟨by have := HJ5.out; have := HJ22.out; have := HJ152.out; have := HJ228.out; have := HJ249.out; first | omega | exact Nat.le_refl _⟩, ⟨by (with_reducible repeat (first | apply Kd.R_alloc | apply Kd.R_drewN | apply Kd.R_drew)); exact Kd.R_mono HO345.out (fun _ hk => trivial)⟩, ⟨by repeat (first | (with_reducible first | exact HB.out | apply below_alloc | apply pw_below_drewN | apply below_drew1) | exact HB.out)⟩⟩
                · rw [if_neg c308] at H
                  have c308b0 : (t338.toList == t340.toList) = false := beq_eq_false_iff_ne.mpr c308
                  have c308b1 : (t338.toList != t340.toList) = true := bne_iff_ne.mpr c308
                  (try (have c308n1 : (!(t338.toList == t340.toList)) = true := c308b1))
                  have H' := Aside0.mk H
                  clear H
                  go_wp2
                  refine Met.intro (hJ_ _ _ ?mg_ ?rel)
                  case mg_ => kernel_rfl
                  case rel => exact ⟨_, (true), (by first | rfl | ((conv => lhs; whnf); first | rfl | (simp; done) | (simp [*]; done))), H', ⟨by have := HJ5.out; have := HJ22.out; have := HJ152.out; have := HJ228.out; have := HJ249.out; first | omega | exact Nat.le_refl _⟩, ⟨by (with_reducible repeat (first | apply Kd.R_alloc | apply Kd.R_drewN | apply Kd.R_drew)); exact Kd.R_mono HO345.out (fun _ hk => trivial)⟩, ⟨by repeat (first | (with_reducible first | exact HB.out | apply below_alloc | apply pw_below_drewN | apply below_drew1) | exact HB.out)⟩⟩
            · rw [if_neg c306] at H
              have c306b0 : (t334.toList == t336.toList) = false := beq_eq_false_iff_ne.mpr c306
              have c306b1 : (t334.toList != t336.toList) = true := bne_iff_ne.mpr c306
              (try (have c306n1 : (!(t334.toList == t336.toList)) = true := c306b1))
              have H' := Aside0.mk H
              clear H
              go_wp2
              refine Met.intro (hJ_ _ _ ?mg_ ?rel)
              case mg_ => kernel_rfl
              case rel => exact ⟨_, (true), (by first | rfl | ((conv => lhs; whnf); first | rfl | (simp; done) | (simp [*]; done))), H', ⟨by have := HJ5.out; have := HJ22.out; have := HJ152.out; have := HJ228.out; have := HJ249.out; first | omega | exact Nat.le_refl _⟩, ⟨by (with_reducible repeat (first | apply Kd.R_alloc | apply Kd.R_drewN | apply Kd.R_drew)); exact Kd.R_mono HO345.out (fun _ hk => trivial)⟩, ⟨by repeat (first | (with_reducible first | exact HB.out | apply below_alloc | apply pw_below_drewN | apply below_drew1) | exact HB.out)⟩⟩
        · rw [if_neg c304] at H
          have c304b0 : (t330.toList == t332.toList) = false := beq_eq_false_iff_ne.mpr c304
          have c304b1 : (t330.toList != t332.toList) = true := bne_iff_ne.mpr c304
          (try (have c304n1 : (!(t330.toList == t332.toList)) = true := c304b1))
          have H' := Aside0.mk H
          clear H
          go_wp2
          refine Met.intro (hJ_ _ _ ?mg_ ?rel)
          case mg_ => kernel_rfl
          case rel => exact ⟨_, (true), (by first | rfl | ((conv => lhs; whnf); first | rfl | (simp; done) | (simp [*]; done))), H', ⟨by have := HJ5.out; have := HJ22.out; have := HJ152.out; have := HJ228.out; have := HJ249.out; first | omega | exact Nat.le_refl _⟩, ⟨by (with_reducible repeat (first | apply Kd.R_alloc | apply Kd.R_drewN | apply Kd.R_drew)); exact Kd.R_mono HO345.out (fun _ hk => trivial)⟩, ⟨by repeat (first | (with_reducible first | exact HB.out | apply below_alloc | apply pw_below_drewN | apply below_drew1) | exact HB.out)⟩⟩
    · rw [if_neg c302] at H
      have c302b0 : (t326 == t328) = false := beq_eq_false_iff_ne.mpr c302
      have c302b1 : (t326 != t328) = true := bne_iff_ne.mpr c302
      have H' := Aside0.mk H
      clear H
      go_wp2
      refine Met.intro (hJ_ _ _ ?mg_ ?rel)
      case mg_ => kernel_rfl
      case rel => exact ⟨_, (true), (by first | rfl | ((conv => lhs; whnf); first | rfl | (simp; done) | (simp [*]; done))), H', ⟨by have := HJ5.out; have := HJ22.out; have := HJ152.out; have := HJ228.out; have := HJ249.out; first | omega | exact Nat.le_refl _⟩, ⟨by (with_reducible repeat (first | apply Kd.R_alloc | apply Kd.R_drewN | apply Kd.R_drew)); exact Kd.R_mono HO345.out (fun _ hk => trivial)⟩, ⟨by repeat (first | (with_reducible first | exact HB.out | apply below_alloc | apply pw_below_drewN | apply below_drew1) | exact HB.out)⟩⟩

set_option maxHeartbeats 8000000 in
set_option maxRecDepth 100000 in
def laws_FnWaysLeadOfAll.c20 : PSigma fun P0_ : Prop => PSigma fun P1_ : Prop => Hole P0_ → Hole P1_ → laws_FnWaysLeadOfAll.c18.2.1 := by
  refine' ⟨_, _, fun HP0_ HP1_ => _⟩
  rotate_left 2
  intro k a0 a1 a2 A3 c3 l3 a4 r w HR3 HC3 _ _ _ _ kj5 HJ5 t264 t265 A11 t268 t269 A12 t272 t273 A13 t274 t275 A14 t276 t277 A15 t278 t279 A16 t280 t281 A17 t284 t285 A18 t288 t289 A19 t290 t291 A20 t292 t293 A21 t296 t297 A22 w24 v266 w25 v270 w26 _ w27 w28 w29 v282 w30 v286 w31 _ w32 v294 w33 v298 HO267 HO271 HO283 HO287 HO295 HO299 _ _ _ _ _ _ _ kj22 HJ22 _ _ HO_11 _ HO_31 _ kj152 HJ152 _ _ HO_23 _ kj228 HJ228 _ _ kj249 HJ249 t326 t327 A284 t328 t329 A285 t330 t331 A286 t332 t333 A287 t334 t335 A288 t336 t337 A289 t338 t339 A290 t340 t341 A291 t342 t343 A292 t346 t347 A293 HC294 w295 _ w296 _ w297 _ w298 nd w299 v344 w300 v348 HO345 HO349 HB _ _ _ _ f_ wc u558 hcut
  clear HC294
  try clear c2
  try clear p2
  try clear c3
  try clear p3
  try clear q3
  try clear hx3
  try clear c6
  try clear p6
  try clear c20
  try clear c21
  try clear c22
  try clear c23
  try clear c24
  try clear c25
  try clear c26
  try clear c27
  try clear c28
  try clear c29
  try clear c30
  try clear c31
  try clear q31
  try clear p32
  try clear q32
  try clear hx32
  try clear p64
  try clear c251
  try clear c266
  try clear c268
  try clear c268b0
  try clear c269
  try clear c269b0
  try clear c270
  try clear c270b0
  try clear c271
  try clear c271b0
  try clear c273
  try clear c274
  try clear c274b0
  try clear c274b1
  try clear c301
  try clear c301b0
  try clear c301b1
  try clear c301b2
  try clear c302
  try clear c302b0
  try clear c302b1
  try clear c303
  try clear c303b0
  try clear c303b1
  try clear c303b2
  try clear c304
  try clear c304b0
  try clear c304b1
  try clear c305
  try clear c305b0
  try clear c305b1
  try clear c305b2
  try clear c306
  try clear c306b0
  try clear c306b1
  try clear c307
  try clear c307b0
  try clear c307b1
  try clear c307b2
  try clear c308
  try clear c308b0
  try clear c308b1
  try clear c309
  try clear c309b0
  try clear c309b1
  try clear c309b2
  try clear c311
  try clear c312
  try clear c312b0
  try clear c312b1
  try clear c312b2
  try clear q317
  try clear q318
  try clear hx322_0
  try clear hx323_0
  try clear p2
  try clear p3
  try clear p32
  try clear p321
  try clear p322
  try clear p323
  try clear p6
  try clear p64
  try clear q3
  try clear q31
  try clear q317
  try clear q318
  try clear q319
  try clear q32
  try clear q320
  try clear q321
  try clear q322
  try clear q323
  obtain ⟨kq, x558_293, rfl, HA, HJ293, HO_69, HB⟩ := hcut
  cases kq with
  | zero => exact absurd HA.out (by simp [laws_FnWaysLeadOfAll.j11])
  | succ kj293 =>
    have H := HA.out
    clear HA
    simp only [laws_FnWaysLeadOfAll.j11] at H
    by_cases c319 : x558_293 = true
    · subst c319
      have H1 : (some false) = some r := by rw [if_pos rfl] at H; exact H
      clear H
      have H := H1
      clear H1
      obtain rfl := Option.some.inj H
      go_wp2
      go_ret
      exact ⟨by first | rfl | (simp [errW_none, errW_some] <;> rfl) | (simp [*, errW_none, errW_some] <;> rfl), by repeat (first | (with_reducible first | exact HB.out | apply below_alloc | apply pw_below_drewN | apply below_drew1) | exact HB.out)⟩
    · replace c319 := Bool.eq_false_iff.mpr c319
      subst c319
      have H1 : (if t327 = true then ((impl_NumberOfState.f kj293 t330).bind fun bt351 => ((impl_NumberOfState.f kj293 t334).bind fun bt353 => (if bt351.2 = true then (if bt351.1 = t326 then (if bt353.2 = true then (if 0 ≤ a2 then (if bt353.1 = (wrap64 ((shl .i64 1 a2) - 1)) then (if 0 ≤ (wrap64 (a2 + 1)) then (if t326 = (wrap64 (Int.tdiv (shl .i64 1 (wrap64 (a2 + 1))) 3)) then (laws_FnWaysLeadOfAll.j12 kj293 l3 a4 t338 t339 t342 t343) else (some false)) else (none)) else (some false)) else (none)) else (some false)) else (some false)) else (some false)))) else (laws_FnWaysLeadOfAll.j12 kj293 l3 a4 t338 t339 t342 t343)) = some r := by rw [if_neg (show ¬ (false = true) by decide)] at H; exact H
      clear H
      have H := H1
      clear H1
      have HC320 := Aside0.mk H
      clear H
      go_upto_if 559 with (fail)
      refine wp_cutF [o_,o_,o_,o_,o_,o_,o_,o_,o_,o_,i_,o_,o_,o_,o_,o_,o_,o_,o_,o_,o_,o_,o_,o_,o_,o_,o_,o_,o_,o_,o_,o_,o_,o_,o_,o_,o_,o_,o_,o_,o_,o_,o_,o_,o_,o_,o_,o_,o_,o_,o_,o_,o_,o_,o_,o_,o_,o_,o_,o_,o_,o_,o_,o_,o_,o_,o_,o_,o_,o_,o_,o_,o_,i_,i_,i_,i_,o_,o_,o_,o_,i_,i_,i_,i_,i_,i_,i_,i_,i_,i_,i_,i_,i_,i_,i_,i_,i_,i_,i_,i_,i_,i_,i_,i_,i_,i_,i_,i_,i_,i_,i_,i_,i_,i_,i_,i_,i_,i_,i_,i_,i_,i_,i_,i_,i_,i_,i_,i_,i_,i_,i_,i_,i_,i_,i_,i_,i_,i_,i_,i_,i_,i_,i_,i_,i_,i_,i_,i_,i_,i_,i_,i_,i_,i_,i_,i_,i_,i_,i_,i_,i_,i_,i_,i_,i_,i_,i_,i_,i_,i_,i_,i_,i_,i_,i_,i_,i_,i_,i_,i_,i_,i_,i_,i_,i_,i_,i_,i_,i_,i_,i_,i_,i_,i_,i_,i_,i_,i_,i_,i_,i_,i_,i_,i_,i_,i_,i_,i_,i_,i_,i_,i_,i_,i_,i_,i_,i_,i_,i_,i_,i_,i_,i_,i_,i_,i_,i_,i_,i_,i_,i_,i_,i_,i_,i_,i_,i_,i_,i_,i_,i_,i_,i_,i_,i_,i_,i_,i_,i_,i_,i_,i_,i_,i_,i_,i_,i_,i_,i_,i_,i_,i_,i_,i_,i_,i_,i_,i_,i_,i_,i_,i_,i_,i_,i_,i_,i_,i_,i_,i_,i_,i_,i_,i_,i_,i_,i_,i_,i_,i_,i_,i_,i_,i_,i_,i_,i_,i_,i_,i_,i_,i_,i_,i_,i_,i_,i_,i_,i_,i_,i_,i_,i_,i_,i_,i_,i_,i_,i_,i_,i_,i_,i_,i_,i_,i_,i_,i_,i_,i_,i_,i_,i_,i_,i_,i_,i_,i_,i_,i_,i_,i_,i_,i_,i_,i_,i_,i_,i_,i_,i_,i_,i_,i_,i_,i_,i_,i_,i_,i_,i_,i_,i_,i_,i_,i_,i_,i_,i_,i_,i_,i_,i_,i_,i_,i_,o_,o_,o_,i_,i_,i_,i_,o_,o_,o_,i_,i_,i_,i_,i_,i_,i_,i_,i_,i_,i_,i_,i_,i_,i_,i_,i_,i_,i_,i_,i_,i_,i_,i_,i_,i_,i_,i_,i_,i_,i_,i_,i_,i_,i_,i_,i_,i_,i_,i_,i_,i_,i_,i_,i_,i_,i_,i_,i_,i_,i_,i_,i_,i_,i_,i_,i_,i_,i_,i_,i_,i_,i_,i_,i_,i_,i_,i_,i_,i_,i_,i_,i_,i_,i_,i_,i_,i_,i_,i_,i_,i_,i_,i_,i_,i_,i_,i_,i_,i_,i_,i_,i_,i_,i_,i_,i_,i_,i_,i_,i_,i_,i_,i_,i_,i_,i_,i_,i_,i_,i_,i_,i_,i_,i_,i_,i_,i_,i_,i_,i_,i_,i_,i_,i_,i_,i_,i_,i_,i_,i_,i_,i_,i_,i_,i_,i_,i_,i_,i_,i_,i_,i_,i_,i_,i_,i_,i_,i_,i_,i_,i_,i_,i_,i_,i_,i_,i_,i_,i_,i_,i_,i_,i_,i_,i_,i_,i_,i_,i_,i_,i_,i_,i_,i_,i_,i_,i_,i_,i_,i_,i_,i_,i_,i_,i_,i_,i_,i_,i_,i_,i_,i_,i_,i_,i_,i_,i_,i_,i_,i_,i_,i_,i_,i_,i_,i_,i_,i_,i_,i_,i_,i_,i_,i_,i_,i_,i_,i_,i_,i_,i_,i_,i_,i_,i_,i_,i_,i_,i_,i_,i_,i_,i_,i_] (fun f_ wc => ∃ (kq : Nat), Aside0 (laws_FnWaysLeadOfAll.j12 kq l3 a4 t338 t339 t342 t343 = some r) ∧ Aside0 (kq ≤ kj293) ∧ Aside0 (Kd.R (Kd.int .i64) 3 wc w.heap.size (fun _ => True) v344 t342) ∧ Aside0 (Below w.heap.size w wc)) ?rest ?first
      case first =>
        intro J_ K_ hJ_ hK_
        repeat revert ‹_›
        intro HP0_ HP1_
        exact HP0_.out
      case rest =>
        intro f_ wc hcut
        dsimp only [maskF] at hcut ⊢
        repeat revert ‹_›
        intro HP0_ HP1_
        exact HP1_.out

set_option maxHeartbeats 8000000 in
set_option maxRecDepth 100000 in
theorem laws_FnWaysLeadOfAll.c21 : laws_FnWaysLeadOfAll.c20.1 := by
  intro k a0 a1 a2 A3 c3 l3 a4 r w HR3 HC3 _ _ _ _ kj5 HJ5 t264 t265 A11 t268 t269 A12 t272 t273 A13 t274 t275 A14 t276 t277 A15 t278 t279 A16 t280 t281 A17 t284 t285 A18 t288 t289 A19 t290 t291 A20 t292 t293 A21 t296 t297 A22 w24 v266 w25 v270 w26 _ w27 w28 w29 v282 w30 v286 w31 _ w32 v294 w33 v298 HO267 HO271 HO283 HO287 HO295 HO299 _ _ _ _ _ _ _ kj22 HJ22 _ _ HO_11 _ HO_31 _ kj152 HJ152 _ _ HO_23 _ kj228 HJ228 _ _ kj249 HJ249 t326 t327 A284 t328 t329 A285 t330 t331 A286 t332 t333 A287 t334 t335 A288 t336 t337 A289 t338 t339 A290 t340 t341 A291 t342 t343 A292 t346 t347 A293 w295 _ w296 _ w297 _ w298 nd w299 v344 w300 v348 HO345 HO349 _ f_ wc HO_69 HB kj293 HJ293 HC320 _ _ J_ K_ hJ_ hK_
  have H := HC320.out
  clear HC320
  by_cases c321 : t327 = true
  · subst c321
    have H1 : ((impl_NumberOfState.f kj293 t330).bind fun bt351 => ((impl_NumberOfState.f kj293 t334).bind fun bt353 => (if bt351.2 = true then (if bt351.1 = t326 then (if bt353.2 = true then (if 0 ≤ a2 then (if bt353.1 = (wrap64 ((shl .i64 1 a2) - 1)) then (if 0 ≤ (wrap64 (a2 + 1)) then (if t326 = (wrap64 (Int.tdiv (shl .i64 1 (wrap64 (a2 + 1))) 3)) then (laws_FnWaysLeadOfAll.j12 kj293 l3 a4 t338 t339 t342 t343) else (some false)) else (none)) else (some false)) else (none)) else (some false)) else (some false)) else (some false)))) = some r := by rw [if_pos rfl] at H; exact H
    clear H
    have H := H1
    clear H1
    replace H := Option.bind_eq_some_iff.mp H
    obtain ⟨⟨t351, t352⟩, A3220, H⟩ := H
    replace H : ((impl_NumberOfState.f kj293 t334).bind fun bt353 => (if t352 = true then (if t351 = t326 then (if bt353.2 = true then (if 0 ≤ a2 then (if bt353.1 = (wrap64 ((shl .i64 1 a2) - 1)) then (if 0 ≤ (wrap64 (a2 + 1)) then (if t326 = (wrap64 (Int.tdiv (shl .i64 1 (wrap64 (a2 + 1))) 3)) then (laws_FnWaysLeadOfAll.j12 kj293 l3 a4 t338 t339 t342 t343) else (some false)) else (none)) else (some false)) else (none)) else (some false)) else (some false)) else (some false))) = some r := H
    have A322 := Aside0.mk A3220
    clear A3220
    replace H := Option.bind_eq_some_iff.mp H
    obtain ⟨⟨t353, t354⟩, A3230, H⟩ := H
    replace H : (if t352 = true then (if t351 = t326 then (if t354 = true then (if 0 ≤ a2 then (if t353 = (wrap64 ((shl .i64 1 a2) - 1)) then (if 0 ≤ (wrap64 (a2 + 1)) then (if t326 = (wrap64 (Int.tdiv (shl .i64 1 (wrap64 (a2 + 1))) 3)) then (laws_FnWaysLeadOfAll.j12 kj293 l3 a4 t338 t339 t342 t343) else (some false)) else (none)) else (some false)) else (none)) else (some false)) else (some false)) else (some false)) = some r := H
    have A323 := Aside0.mk A3230
    clear A3230
    by_cases c324 : t352 = true
    · subst c324
      have H1 : (if t351 = t326 then (if t354 = true then (if 0 ≤ a2 then (if t353 = (wrap64 ((shl .i64 1 a2) - 1)) then (if 0 ≤ (wrap64 (a2 + 1)) then (if t326 = (wrap64 (Int.tdiv (shl .i64 1 (wrap64 (a2 + 1))) 3)) then (laws_FnWaysLeadOfAll.j12 kj293 l3 a4 t338 t339 t342 t343) else (some false)) else (none)) else (some false)) else (none)) else (some false)) else (some false)) = some r := by rw [if_pos rfl] at H; exact H
      clear H
      have H := H1
      clear H1
      by_cases c325 : t351 = t326
      · rw [if_pos c325] at H
        have c325b0 : (t351 == t326) = true := beq_iff_eq.mpr c325
        have c325b1 : (t351 != t326) = false := bne_eq_false_iff_eq.mpr c325
        clear c325
        (first | rw [c325b0] | (simp only [i64_w, i32_w]; rw [c325b0]) | skip)
        by_cases c326 : t354 = true
        · subst c326
          have H1 : (if 0 ≤ a2 then (if t353 = (wrap64 ((shl .i64 1 a2) - 1)) then (if 0 ≤ (wrap64 (a2 + 1)) then (if t326 = (wrap64 (Int.tdiv (shl .i64 1 (wrap64 (a2 + 1))) 3)) then (laws_FnWaysLeadOfAll.j12 kj293 l3 a4 t338 t339 t342 t343) else (some false)) else (none)) else (some false)) else (none)) = some r := by rw [if_pos rfl] at H; exact H
          clear H
          have H := H1
          clear H1
          by_cases c327 : 0 ≤ a2
          · rw [if_pos c327] at H
            have c327b0 := eq_true c327
            have c327b1 : decide (0 ≤ a2) = true := decide_eq_true c327
            clear c327
            obtain ⟨ji328, hji328⟩ : ∃ j_ : Int, (shl .i64 1 a2) = j_ := ⟨_, rfl⟩
            replace H : (if t353 = (wrap64 ((ji328) - 1)) then (if 0 ≤ (wrap64 (a2 + 1)) then (if t326 = (wrap64 (Int.tdiv (shl .i64 1 (wrap64 (a2 + 1))) 3)) then (laws_FnWaysLeadOfAll.j12 kj293 l3 a4 t338 t339 t342 t343) else (some false)) else (none)) else (some false)) = some r := by first | (rw [hji328] at H; exact H) | (simp only [hji328] at H ⊢; exact H)
            (try rw [hji328] at A322)
            (try rw [hji328] at A323)
            have hji328_ : (IntKind.i64.wrap (1 * 2 ^ min a2.toNat 64)) = ji328 := hji328
            have hji328z : a2 ≤ 64 → (IntKind.i64.wrap (1 * 2 ^ a2.toNat)) = ji328 := shl_small hji328
            have hji328u : (IntKind.i64.wrap (2 ^ min a2.toNat 64)) = ji328 := by have h_ := hji328_; rw [Int.one_mul] at h_; exact h_
            have hji328v : a2 ≤ 64 → (IntKind.i64.wrap (2 ^ a2.toNat)) = ji328 := fun hle_ => by have h_ := hji328z hle_; rw [Int.one_mul] at h_; exact h_
            have hji328y : (wrap64 (1 * 2 ^ min a2.toNat 64)) = ji328 := (i64_w _).symm.trans hji328_
            have hji328x : a2 ≤ 64 → (wrap64 (1 * 2 ^ a2.toNat)) = ji328 := fun h_ => (i64_w _).symm.trans (hji328z h_)
            by_cases c329 : t353 = (wrap64 ((ji328) - 1))
            · rw [if_pos c329] at H
              have c329b0 : (t353 == (wrap64 ((ji328) - 1))) = true := beq_iff_eq.mpr c329
              have c329b1 : (t353 != (wrap64 ((ji328) - 1))) = false := bne_eq_false_iff_eq.mpr c329
              clear c329
              obtain ⟨ji330, hji330⟩ : ∃ j_ : Int, (wrap64 (a2 + 1)) = j_ := ⟨_, rfl⟩
              replace H : (if 0 ≤ (ji330) then (if t326 = (wrap64 (Int.tdiv (shl .i64 1 (ji330)) 3)) then (laws_FnWaysLeadOfAll.j12 kj293 l3 a4 t338 t339 t342 t343) else (some false)) else (none)) = some r := by first | (rw [hji330] at H; exact H) | (simp only [hji330] at H ⊢; exact H)
              (try rw [hji330] at A322)
              (try rw [hji330] at A323)
              have hji330w : (IntKind.i64.wrap (a2 + 1)) = ji330 := (i64_w _).trans hji330
              by_cases c331 : 0 ≤ (ji330)
              · rw [if_pos c331] at H
                have c331b0 := eq_true c331
                have c331b1 : decide (0 ≤ (ji330)) = true := decide_eq_true c331
                clear c331
                obtain ⟨ji332, hji332⟩ : ∃ j_ : Int, (shl .i64 1 (ji330)) = j_ := ⟨_, rfl⟩
                replace H : (if t326 = (wrap64 (Int.tdiv (ji332) 3)) then (laws_FnWaysLeadOfAll.j12 kj293 l3 a4 t338 t339 t342 t343) else (some false)) = some r := by first | (rw [hji332] at H; exact H) | (simp only [hji332] at H ⊢; exact H)
                (try rw [hji332] at A322)
                (try rw [hji332] at A323)
                have hji332_ : (IntKind.i64.wrap (1 * 2 ^ min (ji330).toNat 64)) = ji332 := hji332
                have hji332z : (ji330) ≤ 64 → (IntKind.i64.wrap (1 * 2 ^ (ji330).toNat)) = ji332 := shl_small hji332
                have hji332u : (IntKind.i64.wrap (2 ^ min (ji330).toNat 64)) = ji332 := by have h_ := hji332_; rw [Int.one_mul] at h_; exact h_
                have hji332v : (ji330) ≤ 64 → (IntKind.i64.wrap (2 ^ (ji330).toNat)) = ji332 := fun hle_ => by have h_ := hji332z hle_; rw [Int.one_mul] at h_; exact h_
                have hji332y : (wrap64 (1 * 2 ^ min (ji330).toNat 64)) = ji332 := (i64_w _).symm.trans hji332_
                have hji332x : (ji330) ≤ 64 → (wrap64 (1 * 2 ^ (ji330).toNat)) = ji332 := fun h_ => (i64_w _).symm.trans (hji332z h_)
                by_cases c333 : t326 = (wrap64 (Int.tdiv (ji332) 3))
                · rw [if_pos c333] at H
                  have c333b0 : (t326 == (wrap64 (Int.tdiv (ji332) 3))) = true := beq_iff_eq.mpr c333
                  have c333b1 : (t326 != (wrap64 (Int.tdiv (ji332) 3))) = false := bne_eq_false_iff_eq.mpr c333
                  clear c333
                  have H' := Aside0.mk H
                  clear H
                  go_wp2_with (first | ((with_reducible refine gate_callee (f := 30) rfl ?_); refine goesL_ (some 562) rfl rfl Tryd.func30 (by kernel_rfl) rfl #[.string t330] rfl (by (try simp only [List.map_toArray, List.map_cons, List.map_nil]); first | done | rfl | (simp only [List.length_drop, List.length_take]; rfl)) ?_; (with_reducible refine (impl_NumberOfState.calls kj293 t330 t351 true _ A322.out).mono ?_); rintro e w334 ⟨rfl, hb⟩; refine ⟨_, rfl, ?_⟩; have n0_ := Aside0.mk (Kd.R_below (by (with_reducible repeat (first | apply Kd.R_alloc | apply Kd.R_drewN | apply Kd.R_drew)); exact HO_69.out) hb); have n1_ := Aside0.mk (below_step (by repeat (first | (with_reducible first | exact HB.out | apply below_alloc | apply pw_below_drewN | apply below_drew1) | exact HB.out)) hb); clear HO_69; clear HB; have HO_69 := n0_; have HB := n1_; clear n0_ n1_; (try clear hb); (try clear hb2); (try clear hk); (try clear hi)) | ((with_reducible refine gate_callee (f := 30) rfl ?_); refine goesL_ (some 567) rfl rfl Tryd.func30 (by kernel_rfl) rfl #[.string t334] rfl (by (try simp only [List.map_toArray, List.map_cons, List.map_nil]); first | done | rfl | (simp only [List.length_drop, List.length_take]; rfl)) ?_; (with_reducible refine (impl_NumberOfState.calls kj293 t334 t353 true _ A323.out).mono ?_); rintro e w335 ⟨rfl, hb⟩; refine ⟨_, rfl, ?_⟩; have n0_ := Aside0.mk (Kd.R_below (by (with_reducible repeat (first | apply Kd.R_alloc | apply Kd.R_drewN | apply Kd.R_drew)); exact HO_69.out) hb); have n1_ := Aside0.mk (below_step (by repeat (first | (with_reducible first | exact HB.out | apply below_alloc | apply pw_below_drewN | apply below_drew1) | exact HB.out)) hb); clear HO_69; clear HB; have HO_69 := n0_; have HB := n1_; clear n0_ n1_; (try clear hb); (try clear hb2); (try clear hk); (try clear hi)))
                  refine Met.intro (hJ_ _ _ ?mg_ ?rel)
                  case mg_ => kernel_rfl
                  case rel => exact ⟨_, H', ⟨by have := HJ5.out; have := HJ22.out; have := HJ152.out; have := HJ228.out; have := HJ249.out; have := HJ293.out; first | omega | exact Nat.le_refl _⟩, ⟨by (with_reducible repeat (first | apply Kd.R_alloc | apply Kd.R_drewN | apply Kd.R_drew)); exact HO_69.out⟩, ⟨by repeat (first | (with_reducible first | exact HB.out | apply below_alloc | apply pw_below_drewN | apply below_drew1) | exact HB.out)⟩⟩
                · rw [if_neg c333] at H
                  have c333b0 : (t326 == (wrap64 (Int.tdiv (ji332) 3))) = false := beq_eq_false_iff_ne.mpr c333
                  have c333b1 : (t326 != (wrap64 (Int.tdiv (ji332) 3))) = true := bne_iff_ne.mpr c333
                  obtain rfl := Option.some.inj H
                  go_wp2_with (first | ((with_reducible refine gate_callee (f := 30) rfl ?_); refine goesL_ (some 562) rfl rfl Tryd.func30 (by kernel_rfl) rfl #[.string t330] rfl (by (try simp only [List.map_toArray, List.map_cons, List.map_nil]); first | done | rfl | (simp only [List.length_drop, List.length_take]; rfl)) ?_; (with_reducible refine (impl_NumberOfState.calls kj293 t330 t351 true _ A322.out).mono ?_); rintro e w336 ⟨rfl, hb⟩; refine ⟨_, rfl, ?_⟩; have n0_ := Aside0.mk (Kd.R_below (by (with_reducible repeat (first | apply Kd.R_alloc | apply Kd.R_drewN | apply Kd.R_drew)); exact HO_69.out) hb); have n1_ := Aside0.mk (below_step (by repeat (first | (with_reducible first | exact HB.out | apply below_alloc | apply pw_below_drewN | apply below_drew1) | exact HB.out)) hb); clear HO_69; clear HB; have HO_69 := n0_; have HB := n1_; clear n0_ n1_; (try clear hb); (try clear hb2); (try clear hk); (try clear hi)) | ((with_reducible refine gate_callee (f := 30) rfl ?_); refine goesL_ (some 567) rfl rfl Tryd.func30 (by kernel_rfl) rfl #[.string t334] rfl (by (try simp only [List.map_toArray, List.map_cons, List.map_nil]); first | done | rfl | (simp only [List.length_drop, List.length_take]; rfl)) ?_; (with_reducible refine (impl_NumberOfState.calls kj293 t334 t353 true _ A323.out).mono ?_); rintro e w337 ⟨rfl, hb⟩; refine ⟨_, rfl, ?_⟩; have n0_ := Aside0.mk (Kd.R_below (by (with_reducible repeat (first | apply Kd.R_alloc | apply Kd.R_drewN | apply Kd.R_drew)); exact HO_69.out) hb); have n1_ := Aside0.mk (below_step (by repeat (first | (with_reducible first | exact HB.out | apply below_alloc | apply pw_below_drewN | apply below_drew1) | exact HB.out)) hb); clear HO_69; clear HB; have HO_69 := n0_; have HB := n1_; clear n0_ n1_; (try clear hb); (try clear hb2); (try clear hk); (try clear hi)))
                  go_ret
                  exact ⟨by first | rfl | (simp [errW_none, errW_some] <;> rfl) | (simp only [← hji328, ← hji330, ← hji332]; first | rfl | (simp [errW_none, errW_some] <;> rfl)) | (simp [*, errW_none, errW_some] <;> rfl), by repeat (first | (with_reducible first | exact HB.out | apply below_alloc | apply pw_below_drewN | apply below_drew1) | exact HB.out)⟩
              · rw [if_neg c331] at H
                exact absurd H (by simp)
            · rw [if_neg c329] at H
              have c329b0 : (t353 == (wrap64 ((ji328) - 1))) = false := beq_eq_false_iff_ne.mpr c329
              have c329b1 : (t353 != (wrap64 ((ji328) - 1))) = true := bne_iff_ne.mpr c329
              obtain rfl := Option.some.inj H
              go_wp2_with (first | ((with_reducible refine gate_callee (f := 30) rfl ?_); refine goesL_ (some 562) rfl rfl Tryd.func30 (by kernel_rfl) rfl #[.string t330] rfl (by (try simp only [List.map_toArray, List.map_cons, List.map_nil]); first | done | rfl | (simp only [List.length_drop, List.length_take]; rfl)) ?_; (with_reducible refine (impl_NumberOfState.calls kj293 t330 t351 true _ A322.out).mono ?_); rintro e w338 ⟨rfl, hb⟩; refine ⟨_, rfl, ?_⟩; have n0_ := Aside0.mk (Kd.R_below (by (with_reducible repeat (first | apply Kd.R_alloc | apply Kd.R_drewN | apply Kd.R_drew)); exact HO_69.out) hb); have n1_ := Aside0.mk (below_step (by repeat (first | (with_reducible first | exact HB.out | apply below_alloc | apply pw_below_drewN | apply below_drew1) | exact HB.out)) hb); clear HO_69; clear HB; have HO_69 := n0_; have HB := n1_; clear n0_ n1_; (try clear hb); (try clear hb2); (try clear hk); (try clear hi)) | ((with_reducible refine gate_callee (f := 30) rfl ?_); refine goesL_ (some 567) rfl rfl Tryd.func30 (by kernel_rfl) rfl #[.string t334] rfl (by (try simp only [List.map_toArray, List.map_cons, List.map_nil]); first | done | rfl | (simp only [List.length_drop, List.length_take]; rfl)) ?_; (with_reducible refine (impl_NumberOfState.calls kj293 t334 t353 true _ A323.out).mono ?_); rintro e w339 ⟨rfl, hb⟩; refine ⟨_, rfl, ?_⟩; have n0_ := Aside0.mk (Kd.R_below (by (with_reducible repeat (first | apply Kd.R_alloc | apply Kd.R_drewN | apply Kd.R_drew)); exact HO_69.out) hb); have n1_ := Aside0.mk (below_step (by repeat (first | (with_reducible first | exact HB.out | apply below_alloc | apply pw_below_drewN | apply below_drew1) | exact HB.out)) hb); clear HO_69; clear HB; have HO_69 := n0_; have HB := n1_; clear n0_ n1_; (try clear hb); (try clear hb2); (try clear hk); (try clear hi)))
              go_ret
              exact ⟨by first | rfl | (simp [errW_none, errW_some] <;> rfl) | (simp only [← hji328]; first | rfl | (simp [errW_none, errW_some] <;> rfl)) | (simp [*, errW_none, errW_some] <;> rfl), by repeat (first | (with_reducible first | exact HB.out | apply below_alloc | apply pw_below_drewN | apply below_drew1) | exact HB.out)⟩
          · rw [if_neg c327] at H
            exact absurd H (by simp)
        · replace c326 := Bool.eq_false_iff.mpr c326
          subst c326
          have H1 : (some false) = some r := by rw [if_neg (show ¬ (false = true) by decide)] at H; exact H
          clear H
          have H := H1
          clear H1
          obtain rfl := Option.some.inj H
          go_wp2_with (first | ((with_reducible refine gate_callee (f := 30) rfl ?_); refine goesL_ (some 562) rfl rfl Tryd.func30 (by kernel_rfl) rfl #[.string t330] rfl (by (try simp only [List.map_toArray, List.map_cons, List.map_nil]); first | done | rfl | (simp only [List.length_drop, List.length_take]; rfl)) ?_; (with_reducible refine (impl_NumberOfState.calls kj293 t330 t351 true _ A322.out).mono ?_); rintro e w340 ⟨rfl, hb⟩; refine ⟨_, rfl, ?_⟩; have n0_ := Aside0.mk (Kd.R_below (by (with_reducible repeat (first | apply Kd.R_alloc | apply Kd.R_drewN | apply Kd.R_drew)); exact HO_69.out) hb); have n1_ := Aside0.mk (below_step (by repeat (first | (with_reducible first | exact HB.out | apply below_alloc | apply pw_below_drewN | apply below_drew1) | exact HB.out)) hb); clear HO_69; clear HB; have HO_69 := n0_; have HB := n1_; clear n0_ n1_; (try clear hb); (try clear hb2); (try clear hk); (try clear hi)) | ((with_reducible refine gate_callee (f := 30) rfl ?_); refine goesL_ (some 567) rfl rfl Tryd.func30 (by kernel_rfl) rfl #[.string t334] rfl (by (try simp only [List.map_toArray, List.map_cons, List.map_nil]); first | done | rfl | (simp only [List.length_drop, List.length_take]; rfl)) ?_; (with_reducible refine (impl_NumberOfState.calls kj293 t334 t353 false _ A323.out).mono ?_); rintro e w341 ⟨rfl, hb⟩; refine ⟨_, rfl, ?_⟩; have n0_ := Aside0.mk (Kd.R_below (by (with_reducible repeat (first | apply Kd.R_alloc | apply Kd.R_drewN | apply Kd.R_drew)); exact HO_69.out) hb); have n1_ := Aside0.mk (below_step (by repeat (first | (with_reducible first | exact HB.out | apply below_alloc | apply pw_below_drewN | apply below_drew1) | exact HB.out)) hb); clear HO_69; clear HB; have HO_69 := n0_; have HB := n1_; clear n0_ n1_; (try clear hb); (try clear hb2); (try clear hk); (try clear hi)))
          go_ret
          exact ⟨by first | rfl | (simp [errW_none, errW_some] <;> rfl) | (simp [*, errW_none, errW_some] <;> rfl), by repeat (first | (with_reducible first | exact HB.out | apply below_alloc | apply pw_below_drewN | apply below_drew1) | exact HB.out)⟩
      · rw [if_neg c325] at H
        have c325b0 : (t351 == t326) = false := beq_eq_false_iff_ne.mpr c325
        have c325b1 : (t351 != t326) = true := bne_iff_ne.mpr c325
        (first | rw [c325b0] | (simp only [i64_w, i32_w]; rw [c325b0]) | skip)
        obtain rfl := Option.some.inj H
        go_wp2_with (first | ((with_reducible refine gate_callee (f := 30) rfl ?_); refine goesL_ (some 562) rfl rfl Tryd.func30 (by kernel_rfl) rfl #[.string t330] rfl (by (try simp only [List.map_toArray, List.map_cons, List.map_nil]); first | done | rfl | (simp only [List.length_drop, List.length_take]; rfl)) ?_; (with_reducible refine (impl_NumberOfState.calls kj293 t330 t351 true _ A322.out).mono ?_); rintro e w342 ⟨rfl, hb⟩; refine ⟨_, rfl, ?_⟩; have n0_ := Aside0.mk (Kd.R_below (by (with_reducible repeat (first | apply Kd.R_alloc | apply Kd.R_drewN | apply Kd.R_drew)); exact HO_69.out) hb); have n1_ := Aside0.mk (below_step (by repeat (first | (with_reducible first | exact HB.out | apply below_alloc | apply pw_below_drewN | apply below_drew1) | exact HB.out)) hb); clear HO_69; clear HB; have HO_69 := n0_; have HB := n1_; clear n0_ n1_; (try clear hb); (try clear hb2); (try clear hk); (try clear hi)) | ((with_reducible refine gate_callee (f := 30) rfl ?_); refine goesL_ (some 567) rfl rfl Tryd.func30 (by kernel_rfl) rfl #[.string t334] rfl (by (try simp only [List.map_toArray, List.map_cons, List.map_nil]); first | done | rfl | (simp only [List.length_drop, List.length_take]; rfl)) ?_; (with_reducible refine (impl_NumberOfState.calls kj293 t334 t353 t354 _ A323.out).mono ?_); rintro e w343 ⟨rfl, hb⟩; refine ⟨_, rfl, ?_⟩; have n0_ := Aside0.mk (Kd.R_below (by (with_reducible repeat (first | apply Kd.R_alloc | apply Kd.R_drewN | apply Kd.R_drew)); exact HO_69.out) hb); have n1_ := Aside0.mk (below_step (by repeat (first | (with_reducible first | exact HB.out | apply below_alloc | apply pw_below_drewN | apply below_drew1) | exact HB.out)) hb); clear HO_69; clear HB; have HO_69 := n0_; have HB := n1_; clear n0_ n1_; (try clear hb); (try clear hb2); (try clear hk); (try clear hi)))
        go_ret
        exact ⟨by first | rfl | (simp [errW_none, errW_some] <;> rfl) | (simp [*, errW_none, errW_some] <;> rfl), by repeat (first | (with_reducible first | exact HB.out | apply below_alloc | apply pw_below_drewN | apply below_drew1) | exact HB.out)⟩
    · replace c324 := Bool.eq_false_iff.mpr c324
      subst c324
      have H1 : (some false) = some r := by rw [if_neg (show ¬ (false = true) by decide)] at H; exact H
      clear H
      have H := H1
      clear H1
      obtain rfl := Option.some.inj H
      go_wp2_with (first | ((with_reducible refine gate_callee (f := 30) rfl ?_); refine goesL_ (some 562) rfl rfl Tryd.func30 (by kernel_rfl) rfl #[.string t330] rfl (by (try simp only [List.map_toArray, List.map_cons, List.map_nil]); first | done | rfl | (simp only [List.length_drop, List.length_take]; rfl)) ?_; (with_reducible refine (impl_NumberOfState.calls kj293 t330 t351 false _ A322.out).mono ?_); rintro e w344 ⟨rfl, hb⟩; refine ⟨_, rfl, ?_⟩; have n0_ := Aside0.mk (Kd.R_below (by (with_reducible repeat (first | apply Kd.R_alloc | apply Kd.R_drewN | apply Kd.R_drew)); exact HO_69.out) hb); have n1_ := Aside0.mk (below_step (by repeat (first | (with_reducible first | exact HB.out | apply below_alloc | apply pw_below_drewN | apply below_drew1) | exact HB.out)) hb); clear HO_69; clear HB; have HO_69 := n0_; have HB := n1_; clear n0_ n1_; (try clear hb); (try clear hb2); (try clear hk); (try clear hi)) | ((with_reducible refine gate_callee (f := 30) rfl ?_); refine goesL_ (some 567) rfl rfl Tryd.func30 (by kernel_rfl) rfl #[.string t334] rfl (by (try simp only [List.map_toArray, List.map_cons, List.map_nil]); first | done | rfl | (simp only [List.length_drop, List.length_take]; rfl)) ?_; (with_reducible refine (impl_NumberOfState.calls kj293 t334 t353 t354 _ A323.out).mono ?_); rintro e w345 ⟨rfl, hb⟩; refine ⟨_, rfl, ?_⟩; have n0_ := Aside0.mk (Kd.R_below (by (with_reducible repeat (first | apply Kd.R_alloc | apply Kd.R_drewN | apply Kd.R_drew)); exact HO_69.out) hb); have n1_ := Aside0.mk (below_step (by repeat (first | (with_reducible first | exact HB.out | apply below_alloc | apply pw_below_drewN | apply below_drew1) | exact HB.out)) hb); clear HO_69; clear HB; have HO_69 := n0_; have HB := n1_; clear n0_ n1_; (try clear hb); (try clear hb2); (try clear hk); (try clear hi)))
      go_ret
      exact ⟨by first | rfl | (simp [errW_none, errW_some] <;> rfl) | (simp [*, errW_none, errW_some] <;> rfl), by repeat (first | (with_reducible first | exact HB.out | apply below_alloc | apply pw_below_drewN | apply below_drew1) | exact HB.out)⟩
  · replace c321 := Bool.eq_false_iff.mpr c321
    subst c321
    have H1 : (laws_FnWaysLeadOfAll.j12 kj293 l3 a4 t338 t339 t342 t343) = some r := by rw [if_neg (show ¬ (false = true) by decide)] at H; exact H
    clear H
    have H := H1
    clear H1
    have H' := Aside0.mk H
    clear H
    go_wp2
    refine Met.intro (hJ_ _ _ ?mg_ ?rel)
    case mg_ => kernel_rfl
    case rel => exact ⟨_, H', ⟨by have := HJ5.out; have := HJ22.out; have := HJ152.out; have := HJ228.out; have := HJ249.out; have := HJ293.out; first | omega | exact Nat.le_refl _⟩, ⟨by (with_reducible repeat (first | apply Kd.R_alloc | apply Kd.R_drewN | apply Kd.R_drew)); exact HO_69.out⟩, ⟨by repeat (first | (with_reducible first | exact HB.out | apply below_alloc | apply pw_below_drewN | apply below_drew1) | exact HB.out)⟩⟩

set_option maxHeartbeats 8000000 in
set_option maxRecDepth 100000 in
def laws_FnWaysLeadOfAll.c22 : PSigma fun P0_ : Prop => Hole P0_ → laws_FnWaysLeadOfAll.c20.2.1 := by
  refine' ⟨_, fun HP0_ => _⟩
  rotate_left 1
  intro k a0 a1 a2 A3 c3 l3 a4 r w HR3 HC3 _ _ _ _ kj5 HJ5 t264 t265 A11 t268 t269 A12 t272 t273 A13 t274 t275 A14 t276 t277 A15 t278 t279 A16 t280 t281 A17 t284 t285 A18 t288 t289 A19 t290 t291 A20 t292 t293 A21 t296 t297 A22 w24 v266 w25 v270 w26 _ w27 w28 w29 v282 w30 v286 w31 _ w32 v294 w33 v298 HO267 HO271 HO283 HO287 HO295 HO299 _ _ _ _ _ _ _ kj22 HJ22 _ _ HO_11 _ HO_31 _ kj152 HJ152 _ _ HO_23 _ kj228 HJ228 _ _ kj249 HJ249 t326 t327 A284 t328 t329 A285 t330 t331 A286 t332 t333 A287 t334 t335 A288 t336 t337 A289 t338 t339 A290 t340 t341 A291 t342 t343 A292 t346 t347 A293 w295 _ w296 _ w297 _ w298 nd w299 v344 w300 v348 HO345 HO349 _ _ _ HO_69 HB kj293 HJ293 HC320 _ _ f_ wc hcut
  clear HC320
  try clear c2
  try clear p2
  try clear c3
  try clear p3
  try clear q3
  try clear hx3
  try clear c6
  try clear p6
  try clear c20
  try clear c21
  try clear c22
  try clear c23
  try clear c24
  try clear c25
  try clear c26
  try clear c27
  try clear c28
  try clear c29
  try clear c30
  try clear c31
  try clear q31
  try clear c32
  try clear p32
  try clear q32
  try clear hx32
  try clear c33
  try clear p64
  try clear c251
  try clear c266
  try clear c268
  try clear c268b0
  try clear c269
  try clear c269b0
  try clear c270
  try clear c270b0
  try clear c271
  try clear c271b0
  try clear c273
  try clear c274
  try clear c274b0
  try clear c274b1
  try clear c301
  try clear c301b0
  try clear c301b1
  try clear c301b2
  try clear c302
  try clear c302b0
  try clear c302b1
  try clear c303
  try clear c303b0
  try clear c303b1
  try clear c303b2
  try clear c304
  try clear c304b0
  try clear c304b1
  try clear c305
  try clear c305b0
  try clear c305b1
  try clear c305b2
  try clear c306
  try clear c306b0
  try clear c306b1
  try clear c307
  try clear c307b0
  try clear c307b1
  try clear c307b2
  try clear c308
  try clear c308b0
  try clear c308b1
  try clear c309
  try clear c309b0
  try clear c309b1
  try clear c309b2
  try clear c311
  try clear c312
  try clear c312b0
  try clear c312b1
  try clear c312b2
  try clear q317
  try clear q318
  try clear c319
  try clear q319
  try clear q320
  try clear c321
  try clear p321
  try clear q321
  try clear p322
  try clear q322
  try clear hx322
  try clear p323
  try clear q323
  try clear hx323
  try clear c324
  try clear c325
  try clear c325b0
  try clear c325b1
  try clear c326
  try clear c327
  try clear c327b0
  try clear c327b1
  try clear c329
  try clear c329b0
  try clear c329b1
  try clear c331
  try clear c331b0
  try clear c331b1
  try clear c333
  try clear c333b0
  try clear c333b1
  try clear hx322_0
  try clear hx323_0
  try clear p2
  try clear p3
  try clear p32
  try clear p321
  try clear p322
  try clear p323
  try clear p6
  try clear p64
  try clear q3
  try clear q31
  try clear q317
  try clear q318
  try clear q319
  try clear q32
  try clear q320
  try clear q321
  try clear q322
  try clear q323
  obtain ⟨kq, HA, HJ319, HO_69, HB⟩ := hcut
  cases kq with
  | zero => exact absurd HA.out (by simp [laws_FnWaysLeadOfAll.j12])
  | succ kj319 =>
    have H := HA.out
    clear HA
    simp only [laws_FnWaysLeadOfAll.j12] at H
    by_cases c346 : t339 = true
    · subst c346
      have H1 : ((impl_ParseMoves.f kj319 t338).bind fun bt355 => (if bt355.2 = true then ((laws_ySame.f kj319 bt355.1 l3).bind fun t359 => (laws_FnWaysLeadOfAll.j13 kj319 a4 t342 t343 (!t359))) else (laws_FnWaysLeadOfAll.j13 kj319 a4 t342 t343 true))) = some r := by rw [if_pos rfl] at H; exact H
      clear H
      have H := H1
      clear H1
      replace H := Option.bind_eq_some_iff.mp H
      obtain ⟨⟨t355, t356⟩, A3470, H⟩ := H
      replace H : (if t356 = true then ((laws_ySame.f kj319 t355 l3).bind fun t359 => (laws_FnWaysLeadOfAll.j13 kj319 a4 t342 t343 (!t359))) else (laws_FnWaysLeadOfAll.j13 kj319 a4 t342 t343 true)) = some r := H
      have A347 := Aside0.mk A3470
      clear A3470
      have HC348 := Aside0.mk H
      clear H
      go_upto_region 69 with (first | ((with_reducible refine gate_callee (f := 28) rfl ?_); refine goesL_ (some 599) rfl rfl Tryd.func28 (by kernel_rfl) rfl #[.string t338] rfl (by (try simp only [List.map_toArray, List.map_cons, List.map_nil]); first | done | rfl | (simp only [List.length_drop, List.length_take]; rfl)) ?_; (with_reducible refine (impl_ParseMoves.calls kj319 t338 t355 t356 _ A347.out).mono ?_); rintro e w349 ⟨v357, rfl, ho0, hb⟩; refine ⟨_, rfl, ?_⟩; have n0_ := Aside0.mk (Kd.R_elder' (by (with_reducible repeat (first | apply Kd.R_alloc | apply Kd.R_drewN | apply Kd.R_drew)); exact HO_69.out) (Kd.R_base ho0) hb); have n1_ := Aside0.mk (Kd.R_lower (Kd.R_new' ho0 (Kd.R_lt (by (with_reducible repeat (first | apply Kd.R_alloc | apply Kd.R_drewN | apply Kd.R_drew)); exact HO_69.out))) (below_size (by repeat (first | (with_reducible first | exact HB.out | apply below_alloc | apply pw_below_drewN | apply below_drew1) | exact HB.out)))); have n2_ := Aside0.mk (below_step (by repeat (first | (with_reducible first | exact HB.out | apply below_alloc | apply pw_below_drewN | apply below_drew1) | exact HB.out)) hb); clear HO_69; clear HB; have HO_69 := n0_; have HO358 := n1_; have HB := n2_; clear n0_ n1_ n2_; (try clear hb); (try clear hb2); (try clear hk); (try clear hi); (try clear ho0)))
      (try simp only [Act.put, List.setIfInBounds_toArray, List.set_cons_zero, List.set_cons_succ])
      refine wp_cutF [o_,o_,o_,o_,o_,o_,o_,o_,o_,o_,o_,o_,o_,o_,o_,o_,o_,o_,o_,o_,o_,o_,o_,o_,o_,o_,o_,o_,o_,o_,o_,o_,o_,o_,o_,o_,o_,o_,o_,o_,o_,o_,o_,o_,o_,o_,o_,o_,o_,o_,o_,o_,o_,o_,o_,o_,o_,o_,o_,o_,o_,o_,o_,o_,o_,o_,o_,o_,o_,o_,o_,o_,o_,o_,o_,o_,o_,o_,o_,o_,o_,i_,i_,i_,i_,i_,i_,i_,i_,i_,i_,i_,i_,i_,i_,i_,i_,i_,i_,i_,i_,i_,i_,i_,i_,i_,i_,i_,i_,i_,i_,i_,i_,i_,i_,i_,i_,i_,i_,i_,i_,i_,i_,i_,i_,i_,i_,i_,i_,i_,i_,i_,i_,i_,i_,i_,i_,i_,i_,i_,i_,i_,i_,i_,i_,i_,i_,i_,i_,i_,i_,i_,i_,i_,i_,i_,i_,i_,i_,i_,i_,i_,i_,i_,i_,i_,i_,i_,i_,i_,i_,i_,i_,i_,i_,i_,i_,i_,i_,i_,i_,i_,i_,i_,i_,i_,i_,i_,i_,i_,i_,i_,i_,i_,i_,i_,i_,i_,i_,i_,i_,i_,i_,i_,i_,i_,i_,i_,i_,i_,i_,i_,i_,i_,i_,i_,i_,i_,i_,i_,i_,i_,i_,i_,i_,i_,i_,i_,i_,i_,i_,i_,i_,i_,i_,i_,i_,i_,i_,i_,i_,i_,i_,i_,i_,i_,i_,i_,i_,i_,i_,i_,i_,i_,i_,i_,i_,i_,i_,i_,i_,i_,i_,i_,i_,i_,i_,i_,i_,i_,i_,i_,i_,i_,i_,i_,i_,i_,i_,i_,i_,i_,i_,i_,i_,i_,i_,i_,i_,i_,i_,i_,i_,i_,i_,i_,i_,i_,i_,i_,i_,i_,i_,i_,i_,i_,i_,i_,i_,i_,i_,i_,i_,i_,i_,i_,i_,i_,i_,i_,i_,i_,i_,i_,i_,i_,i_,i_,i_,i_,i_,i_,i_,i_,i_,i_,i_,i_,i_,i_,i_,i_,i_,i_,i_,i_,i_,i_,i_,i_,i_,i_,i_,i_,i_,i_,i_,i_,i_,i_,i_,i_,i_,i_,i_,i_,i_,i_,i_,i_,i_,i_,i_,i_,i_,i_,i_,o_,o_,o_,i_,i_,i_,i_,o_,o_,o_,i_,i_,i_,i_,i_,i_,i_,i_,i_,i_,i_,i_,i_,i_,i_,i_,i_,i_,i_,i_,i_,i_,i_,i_,i_,i_,i_,i_,i_,i_,i_,i_,i_,i_,i_,i_,i_,i_,i_,i_,i_,i_,i_,i_,i_,i_,i_,i_,i_,i_,i_,i_,i_,i_,i_,i_,i_,i_,i_,i_,i_,i_,i_,i_,i_,i_,i_,i_,i_,i_,i_,i_,i_,i_,i_,i_,i_,i_,i_,i_,i_,i_,i_,i_,i_,i_,i_,i_,i_,i_,i_,i_,i_,i_,i_,i_,i_,i_,i_,i_,i_,i_,i_,i_,i_,i_,i_,i_,i_,i_,i_,i_,i_,i_,i_,i_,i_,i_,i_,i_,i_,i_,i_,i_,i_,i_,i_,i_,i_,i_,i_,i_,i_,i_,i_,i_,i_,i_,i_,i_,i_,i_,i_,i_,i_,i_,i_,i_,i_,i_,i_,i_,i_,i_,i_,i_,i_,i_,i_,i_,i_,i_,i_,i_,i_,i_,i_,i_,i_,i_,i_,i_,i_,i_,i_,i_,i_,i_,i_,i_,i_,i_,i_,i_,i_,i_,i_,i_,i_,i_,i_,i_,i_,i_,i_,i_,i_,i_,i_,i_,i_,i_,i_,i_,i_,i_,i_,i_,i_,i_,i_,i_,i_,i_,i_,i_,i_,i_,i_,i_,i_,i_,i_,i_,i_,i_,i_,i_,i_,i_,i_,i_,i_,i_,i_] (fun f_ wc => ∃ (kq : Nat) (x609_347 : Bool), (f_ 609) = .bool x609_347 ∧ Aside0 (laws_FnWaysLeadOfAll.j13 kq a4 t342 t343 x609_347 = some r) ∧ Aside0 (kq ≤ kj319) ∧ Aside0 (Kd.R (Kd.int .i64) 3 wc w.heap.size (fun _ => True) v344 t342) ∧ Aside0 (Below w.heap.size w wc)) ?rest ?first
      case first =>
        intro J_ K_ hJ_ hK_
        have H := HC348.out
        clear HC348
        by_cases c350 : t356 = true
        · subst c350
          have H1 : ((laws_ySame.f kj319 t355 l3).bind fun t359 => (laws_FnWaysLeadOfAll.j13 kj319 a4 t342 t343 (!t359))) = some r := by rw [if_pos rfl] at H; exact H
          clear H
          have H := H1
          clear H1
          replace H := Option.bind_eq_some_iff.mp H
          obtain ⟨t359, A3510, H⟩ := H
          replace H : (laws_FnWaysLeadOfAll.j13 kj319 a4 t342 t343 (!t359)) = some r := H
          have A351 := Aside0.mk A3510
          clear A3510
          have H' := Aside0.mk H
          clear H
          obtain ⟨Ao352, co352, eo352⟩ := Kd.R_slice HO358.out
          subst eo352
          go_wp2_with (first | (go_at_call 16; (with_reducible refine (laws_ySame.calls kj319 _ _ t355 _ _ l3 t359 _ ?side1 ?side2 ?side3 ?side4 A351.out).mono ?_); (case side1 => repeat (first | exact (Kd.R_reads' HO358.out).2.2 | (with_reducible refine Kd.C_alloc ?_ _) | (with_reducible refine Kd.C_drewN ?_ _) | (with_reducible refine Kd.C_drew ?_))); (case side2 => exact (Kd.R_reads' HO358.out).2.1); (case side3 => repeat (first | exact (Kd.C_below HR3.out HB.out) | (with_reducible refine Kd.C_alloc ?_ _) | (with_reducible refine Kd.C_drewN ?_ _) | (with_reducible refine Kd.C_drew ?_))); (case side4 => exact HC3.out); rintro e w' ⟨rfl, ⟨nd, rfl⟩⟩))
          refine Met.intro (hJ_ _ _ ?mg_ ?rel)
          case mg_ => kernel_rfl
          case rel => exact ⟨_, (!t359), (by first | rfl | ((conv => lhs; whnf); first | rfl | (simp; done) | (simp [*]; done))), H', ⟨by have := HJ5.out; have := HJ22.out; have := HJ152.out; have := HJ228.out; have := HJ249.out; have := HJ293.out; have := HJ319.out; first | omega | exact Nat.le_refl _⟩, ⟨by (with_reducible repeat (first | apply Kd.R_alloc | apply Kd.R_drewN | apply Kd.R_drew)); exact Kd.R_mono HO_69.out (fun _ hk => trivial)⟩, ⟨by repeat (first | (with_reducible first | exact HB.out | apply below_alloc | apply pw_below_drewN | apply below_drew1) | exact HB.out)⟩⟩
        · replace c350 := Bool.eq_false_iff.mpr c350
          subst c350
          have H1 : (laws_FnWaysLeadOfAll.j13 kj319 a4 t342 t343 true) = some r := by rw [if_neg (show ¬ (false = true) by decide)] at H; exact H
          clear H
          have H := H1
          clear H1
          have H' := Aside0.mk H
          clear H
          go_wp2
          refine Met.intro (hJ_ _ _ ?mg_ ?rel)
          case mg_ => kernel_rfl
          case rel => exact ⟨_, (true), (by first | rfl | ((conv => lhs; whnf); first | rfl | (simp; done) | (simp [*]; done))), H', ⟨by have := HJ5.out; have := HJ22.out; have := HJ152.out; have := HJ228.out; have := HJ249.out; have := HJ293.out; have := HJ319.out; first | omega | exact Nat.le_refl _⟩, ⟨by (with_reducible repeat (first | apply Kd.R_alloc | apply Kd.R_drewN | apply Kd.R_drew)); exact Kd.R_mono HO_69.out (fun _ hk => trivial)⟩, ⟨by repeat (first | (with_reducible first | exact HB.out | apply below_alloc | apply pw_below_drewN | apply below_drew1) | exact HB.out)⟩⟩
      case rest =>
        intro f_ wc hcut
        dsimp only [maskF] at hcut ⊢
        generalize f_ 609 = u609 at hcut ⊢
        repeat revert ‹_›
        intro HP0_
        exact HP0_.out
    · replace c346 := Bool.eq_false_iff.mpr c346
      subst c346
      have H1 : (if t343 = true then ((impl_MovesText.f kj319 t342).bind fun bt362 => (if bt362.2 = true then (some (bt362.1.toList == a4.toList)) else (some false))) else (some true)) = some r := by rw [if_neg (show ¬ (false = true) by decide)] at H; exact H
      clear H
      have H := H1
      clear H1
      by_cases c361 : t343 = true
      · subst c361
        have H1 : ((impl_MovesText.f kj319 t342).bind fun bt362 => (if bt362.2 = true then (some (bt362.1.toList == a4.toList)) else (some false))) = some r := by rw [if_pos rfl] at H; exact H
        clear H
        have H := H1
        clear H1
        replace H := Option.bind_eq_some_iff.mp H
        obtain ⟨⟨t362, t363⟩, A3620, H⟩ := H
        replace H : (if t363 = true then (some (t362.toList == a4.toList)) else (some false)) = some r := H
        have A362 := Aside0.mk A3620
        clear A3620
        by_cases c363 : t363 = true
        · subst c363
          have H1 : (some (t362.toList == a4.toList)) = some r := by rw [if_pos rfl] at H; exact H
          clear H
          have H := H1
          clear H1
          obtain rfl := Option.some.inj H
          obtain ⟨Ao364, co364, eo364⟩ := Kd.R_slice HO_69.out
          subst eo364
          go_wp2_with (first | ((with_reducible refine gate_callee (f := 26) rfl ?_); refine goesL_ (some 613) rfl rfl Tryd.func26 (by kernel_rfl) rfl #[.slice Ao364 t342.length co364] rfl (by (try simp only [List.map_toArray, List.map_cons, List.map_nil]); first | done | rfl | (simp only [List.length_drop, List.length_take]; rfl)) ?_; (with_reducible refine (impl_MovesText.calls kj319 _ _ t342 t362 true _ ?side1 ?side2 A362.out).mono ?_); (case side1 => repeat (first | exact (Kd.R_reads' HO_69.out).2.2 | (with_reducible refine Kd.C_alloc ?_ _) | (with_reducible refine Kd.C_drewN ?_ _) | (with_reducible refine Kd.C_drew ?_))); (case side2 => exact (Kd.R_reads' HO_69.out).2.1); rintro e w365 ⟨rfl, hb⟩; refine ⟨_, rfl, ?_⟩; have n0_ := Aside0.mk (Kd.R_below (by (with_reducible repeat (first | apply Kd.R_alloc | apply Kd.R_drewN | apply Kd.R_drew)); exact HO_69.out) hb); have n1_ := Aside0.mk (below_step (by repeat (first | (with_reducible first | exact HB.out | apply below_alloc | apply pw_below_drewN | apply below_drew1) | exact HB.out)) hb); clear HO_69; clear HB; have HO_69 := n0_; have HB := n1_; clear n0_ n1_; (try clear hb); (try clear hb2); (try clear hk); (try clear hi)))
          go_ret
          exact ⟨by first | rfl | (simp [errW_none, errW_some] <;> rfl) | (simp [*, errW_none, errW_some] <;> rfl), by repeat (first | (with_reducible first | exact HB.out | apply below_alloc | apply pw_below_drewN | apply below_drew1) | exact HB.out)⟩
        · replace c363 := Bool.eq_false_iff.mpr c363
          subst c363
          have H1 : (some false) = some r := by rw [if_neg (show ¬ (false = true) by decide)] at H; exact H
          clear H
          have H := H1
          clear H1
          obtain rfl := Option.some.inj H
          obtain ⟨Ao366, co366, eo366⟩ := Kd.R_slice HO_69.out
          subst eo366
          go_wp2_with (first | ((with_reducible refine gate_callee (f := 26) rfl ?_); refine goesL_ (some 613) rfl rfl Tryd.func26 (by kernel_rfl) rfl #[.slice Ao366 t342.length co366] rfl (by (try simp only [List.map_toArray, List.map_cons, List.map_nil]); first | done | rfl | (simp only [List.length_drop, List.length_take]; rfl)) ?_; (with_reducible refine (impl_MovesText.calls kj319 _ _ t342 t362 false _ ?side1 ?side2 A362.out).mono ?_); (case side1 => repeat (first | exact (Kd.R_reads' HO_69.out).2.2 | (with_reducible refine Kd.C_alloc ?_ _) | (with_reducible refine Kd.C_drewN ?_ _) | (with_reducible refine Kd.C_drew ?_))); (case side2 => exact (Kd.R_reads' HO_69.out).2.1); rintro e w367 ⟨rfl, hb⟩; refine ⟨_, rfl, ?_⟩; have n0_ := Aside0.mk (Kd.R_below (by (with_reducible repeat (first | apply Kd.R_alloc | apply Kd.R_drewN | apply Kd.R_drew)); exact HO_69.out) hb); have n1_ := Aside0.mk (below_step (by repeat (first | (with_reducible first | exact HB.out | apply below_alloc | apply pw_below_drewN | apply below_drew1) | exact HB.out)) hb); clear HO_69; clear HB; have HO_69 := n0_; have HB := n1_; clear n0_ n1_; (try clear hb); (try clear hb2); (try clear hk); (try clear hi)))
          go_ret
          exact ⟨by first | rfl | (simp [errW_none, errW_some] <;> rfl) | (simp [*, errW_none, errW_some] <;> rfl), by repeat (first | (with_reducible first | exact HB.out | apply below_alloc | apply pw_below_drewN | apply below_drew1) | exact HB.out)⟩
      · replace c361 := Bool.eq_false_iff.mpr c361
        subst c361
        have H1 : (some true) = some r := by rw [if_neg (show ¬ (false = true) by decide)] at H; exact H
        clear H
        have H := H1
        clear H1
        obtain rfl := Option.some.inj H
        go_wp2
        go_ret
        exact ⟨by first | rfl | (simp [errW_none, errW_some] <;> rfl) | (simp [*, errW_none, errW_some] <;> rfl), by repeat (first | (with_reducible first | exact HB.out | apply below_alloc | apply pw_below_drewN | apply below_drew1) | exact HB.out)⟩

set_option maxHeartbeats 8000000 in
set_option maxRecDepth 100000 in
theorem laws_FnWaysLeadOfAll.c23 : laws_FnWaysLeadOfAll.c22.1 := by
  intro k a0 a1 a2 A3 c3 l3 a4 r w HR3 HC3 _ _ _ _ kj5 HJ5 t264 t265 A11 t268 t269 A12 t272 t273 A13 t274 t275 A14 t276 t277 A15 t278 t279 A16 t280 t281 A17 t284 t285 A18 t288 t289 A19 t290 t291 A20 t292 t293 A21 t296 t297 A22 w24 v266 w25 v270 w26 _ w27 w28 w29 v282 w30 v286 w31 _ w32 v294 w33 v298 HO267 HO271 HO283 HO287 HO295 HO299 _ _ _ _ _ _ _ kj22 HJ22 _ _ HO_11 _ HO_31 _ kj152 HJ152 _ _ HO_23 _ kj228 HJ228 _ _ kj249 HJ249 t326 t327 A284 t328 t329 A285 t330 t331 A286 t332 t333 A287 t334 t335 A288 t336 t337 A289 t338 t340 t341 A291 t342 t343 A292 t346 t347 A293 w295 _ w296 _ w297 _ w298 nd w299 v344 w300 v348 HO345 HO349 _ _ _ _ _ kj293 HJ293 _ _ kj319 HJ319 A290 t355 t356 A347 HC348 _ _ w349 v357 HO_69 HO358 HB _ _ f_ wc u609 hcut
  clear HC348
  try clear c2
  try clear p2
  try clear c3
  try clear p3
  try clear q3
  try clear hx3
  try clear c6
  try clear p6
  try clear c20
  try clear c21
  try clear c22
  try clear c23
  try clear c24
  try clear c25
  try clear c26
  try clear c27
  try clear c28
  try clear c29
  try clear c30
  try clear c31
  try clear q31
  try clear c32
  try clear p32
  try clear q32
  try clear hx32
  try clear c33
  try clear c34
  try clear c35
  try clear p64
  try clear c251
  try clear c266
  try clear c268
  try clear c268b0
  try clear c269
  try clear c269b0
  try clear c270
  try clear c270b0
  try clear c271
  try clear c271b0
  try clear c273
  try clear c274
  try clear c274b0
  try clear c274b1
  try clear c301
  try clear c301b0
  try clear c301b1
  try clear c301b2
  try clear c302
  try clear c302b0
  try clear c302b1
  try clear c303
  try clear c303b0
  try clear c303b1
  try clear c303b2
  try clear c304
  try clear c304b0
  try clear c304b1
  try clear c305
  try clear c305b0
  try clear c305b1
  try clear c305b2
  try clear c306
  try clear c306b0
  try clear c306b1
  try clear c307
  try clear c307b0
  try clear c307b1
  try clear c307b2
  try clear c308
  try clear c308b0
  try clear c308b1
  try clear c309
  try clear c309b0
  try clear c309b1
  try clear c309b2
  try clear c311
  try clear c312
  try clear c312b0
  try clear c312b1
  try clear c312b2
  try clear q317
  try clear q318
  try clear c319
  try clear q319
  try clear q320
  try clear c321
  try clear p321
  try clear q321
  try clear p322
  try clear q322
  try clear hx322
  try clear p323
  try clear q323
  try clear hx323
  try clear c324
  try clear c325
  try clear c325b0
  try clear c325b1
  try clear c326
  try clear c327
  try clear c327b0
  try clear c327b1
  try clear c329
  try clear c329b0
  try clear c329b1
  try clear c331
  try clear c331b0
  try clear c331b1
  try clear c333
  try clear c333b0
  try clear c333b1
  try clear c346
  try clear c350
  try clear hx322_0
  try clear hx323_0
  try clear p2
  try clear p3
  try clear p32
  try clear p321
  try clear p322
  try clear p323
  try clear p6
  try clear p64
  try clear q3
  try clear q31
  try clear q317
  try clear q318
  try clear q319
  try clear q32
  try clear q320
  try clear q321
  try clear q322
  try clear q323
  obtain ⟨kq, x609_347, rfl, HA, HJ347, HO_69, HB⟩ := hcut
  cases kq with
  | zero => exact absurd HA.out (by simp [laws_FnWaysLeadOfAll.j13])
  | succ kj347 =>
    have H := HA.out
    clear HA
    simp only [laws_FnWaysLeadOfAll.j13] at H
    by_cases c353 : x609_347 = true
    · subst c353
      have H1 : (some false) = some r := by rw [if_pos rfl] at H; exact H
      clear H
      have H := H1
      clear H1
      obtain rfl := Option.some.inj H
      go_wp2
      go_ret
      exact ⟨by first | rfl | (simp [errW_none, errW_some] <;> rfl) | (simp [*, errW_none, errW_some] <;> rfl), by repeat (first | (with_reducible first | exact HB.out | apply below_alloc | apply pw_below_drewN | apply below_drew1) | exact HB.out)⟩
    · replace c353 := Bool.eq_false_iff.mpr c353
      subst c353
      have H1 : (if t343 = true then ((impl_MovesText.f kj347 t342).bind fun bt360 => (if bt360.2 = true then (some (bt360.1.toList == a4.toList)) else (some false))) else (some true)) = some r := by rw [if_neg (show ¬ (false = true) by decide)] at H; exact H
      clear H
      have H := H1
      clear H1
      by_cases c354 : t343 = true
      · subst c354
        have H1 : ((impl_MovesText.f kj347 t342).bind fun bt360 => (if bt360.2 = true then (some (bt360.1.toList == a4.toList)) else (some false))) = some r := by rw [if_pos rfl] at H; exact H
        clear H
        have H := H1
        clear H1
        replace H := Option.bind_eq_some_iff.mp H
        obtain ⟨⟨t360, t361⟩, A3550, H⟩ := H
        replace H : (if t361 = true then (some (t360.toList == a4.toList)) else (some false)) = some r := H
        have A355 := Aside0.mk A3550
        clear A3550
        by_cases c356 : t361 = true
        · subst c356
          have H1 : (some (t360.toList == a4.toList)) = some r := by rw [if_pos rfl] at H; exact H
          clear H
          have H := H1
          clear H1
          obtain rfl := Option.some.inj H
          obtain ⟨Ao357, co357, eo357⟩ := Kd.R_slice HO_69.out
          subst eo357
          go_wp2_with (first | ((with_reducible refine gate_callee (f := 26) rfl ?_); refine goesL_ (some 613) rfl rfl Tryd.func26 (by kernel_rfl) rfl #[.slice Ao357 t342.length co357] rfl (by (try simp only [List.map_toArray, List.map_cons, List.map_nil]); first | done | rfl | (simp only [List.length_drop, List.length_take]; rfl)) ?_; (with_reducible refine (impl_MovesText.calls kj347 _ _ t342 t360 true _ ?side1 ?side2 A355.out).mono ?_); (case side1 => repeat (first | exact (Kd.R_reads' HO_69.out).2.2 | (with_reducible refine Kd.C_alloc ?_ _) | (with_reducible refine Kd.C_drewN ?_ _) | (with_reducible refine Kd.C_drew ?_))); (case side2 => exact (Kd.R_reads' HO_69.out).2.1); rintro e w358 ⟨rfl, hb⟩; refine ⟨_, rfl, ?_⟩; have n0_ := Aside0.mk (Kd.R_below (by (with_reducible repeat (first | apply Kd.R_alloc | apply Kd.R_drewN | apply Kd.R_drew)); exact HO_69.out) hb); have n1_ := Aside0.mk (below_step (by repeat (first | (with_reducible first | exact HB.out | apply below_alloc | apply pw_below_drewN | apply below_drew1) | exact HB.out)) hb); clear HO_69; clear HB; have HO_69 := n0_; have HB := n1_; clear n0_ n1_; (try clear hb); (try clear hb2); (try clear hk); (try clear hi)))
          go_ret
          exact ⟨by first | rfl | (simp [errW_none, errW_some] <;> rfl) | (simp [*, errW_none, errW_some] <;> rfl), by repeat (first | (with_reducible first | exact HB.out | apply below_alloc | apply pw_below_drewN | apply below_drew1) | exact HB.out)⟩
        · replace c356 := Bool.eq_false_iff.mpr c356
          subst c356
          have H1 : (some false) = some r := by rw [if_neg (show ¬ (false = true) by decide)] at H; exact H
          clear H
          have H := H1
          clear H1
          obtain rfl := Option.some.inj H
          obtain ⟨Ao359, co359, eo359⟩ := Kd.R_slice HO_69.out
          subst eo359
          go_wp2_with (first | ((with_reducible refine gate_callee (f := 26) rfl ?_); refine goesL_ (some 613) rfl rfl Tryd.func26 (by kernel_rfl) rfl #[.slice Ao359 t342.length co359] rfl (by (try simp only [List.map_toArray, List.map_cons, List.map_nil]); first | done | rfl | (simp only [List.length_drop, List.length_take]; rfl)) ?_; (with_reducible refine (impl_MovesText.calls kj347 _ _ t342 t360 false _ ?side1 ?side2 A355.out).mono ?_); (case side1 => repeat (first | exact (Kd.R_reads' HO_69.out).2.2 | (with_reducible refine Kd.C_alloc ?_ _) | (with_reducible refine Kd.C_drewN ?_ _) | (with_reducible refine Kd.C_drew ?_))); (case side2 => exact (Kd.R_reads' HO_69.out).2.1); rintro e w360 ⟨rfl, hb⟩; refine ⟨_, rfl, ?_⟩; have n0_ := Aside0.mk (Kd.R_below (by (with_reducible repeat (first | apply Kd.R_alloc | apply Kd.R_drewN | apply Kd.R_drew)); exact HO_69.out) hb); have n1_ := Aside0.mk (below_step (by repeat (first | (with_reducible first | exact HB.out | apply below_alloc | apply pw_below_drewN | apply below_drew1) | exact HB.out)) hb); clear HO_69; clear HB; have HO_69 := n0_; have HB := n1_; clear n0_ n1_; (try clear hb); (try clear hb2); (try clear hk); (try clear hi)))
          go_ret
          exact ⟨by first | rfl | (simp [errW_none, errW_some] <;> rfl) | (simp [*, errW_none, errW_some] <;> rfl), by repeat (first | (with_reducible first | exact HB.out | apply below_alloc | apply pw_below_drewN | apply below_drew1) | exact HB.out)⟩
      · replace c354 := Bool.eq_false_iff.mpr c354
        subst c354
        have H1 : (some true) = some r := by rw [if_neg (show ¬ (false = true) by decide)] at H; exact H
        clear H
        have H := H1
        clear H1
        obtain rfl := Option.some.inj H
        go_wp2
        go_ret
        exact ⟨by first | rfl | (simp [errW_none, errW_some] <;> rfl) | (simp [*, errW_none, errW_some] <;> rfl), by repeat (first | (with_reducible first | exact HB.out | apply below_alloc | apply pw_below_drewN | apply below_drew1) | exact HB.out)⟩

theorem laws_FnWaysLeadOfAll.d22 : laws_FnWaysLeadOfAll.c20.2.1 := laws_FnWaysLeadOfAll.c22.2 ⟨laws_FnWaysLeadOfAll.c23⟩

theorem laws_FnWaysLeadOfAll.d20 : laws_FnWaysLeadOfAll.c18.2.1 := laws_FnWaysLeadOfAll.c20.2.2 ⟨laws_FnWaysLeadOfAll.c21⟩ ⟨laws_FnWaysLeadOfAll.d22⟩

theorem laws_FnWaysLeadOfAll.d18 : laws_FnWaysLeadOfAll.c13.2.1 := laws_FnWaysLeadOfAll.c18.2.2 ⟨laws_FnWaysLeadOfAll.c19⟩ ⟨laws_FnWaysLeadOfAll.d20⟩

theorem laws_FnWaysLeadOfAll.d16 : laws_FnWaysLeadOfAll.c15.1 := laws_FnWaysLeadOfAll.c16.2 ⟨laws_FnWaysLeadOfAll.c17⟩

theorem laws_FnWaysLeadOfAll.d15 : laws_FnWaysLeadOfAll.c14.1 := laws_FnWaysLeadOfAll.c15.2 ⟨laws_FnWaysLeadOfAll.d16⟩

theorem laws_FnWaysLeadOfAll.d14 : laws_FnWaysLeadOfAll.c13.1 := laws_FnWaysLeadOfAll.c14.2 ⟨laws_FnWaysLeadOfAll.d15⟩

theorem laws_FnWaysLeadOfAll.d13 : laws_FnWaysLeadOfAll.c9.2.1 := laws_FnWaysLeadOfAll.c13.2.2 ⟨laws_FnWaysLeadOfAll.d14⟩ ⟨laws_FnWaysLeadOfAll.d18⟩

theorem laws_FnWaysLeadOfAll.d11 : laws_FnWaysLeadOfAll.c10.1 := laws_FnWaysLeadOfAll.c11.2 ⟨laws_FnWaysLeadOfAll.c12⟩

theorem laws_FnWaysLeadOfAll.d10 : laws_FnWaysLeadOfAll.c9.1 := laws_FnWaysLeadOfAll.c10.2 ⟨laws_FnWaysLeadOfAll.d11⟩

theorem laws_FnWaysLeadOfAll.d9 : laws_FnWaysLeadOfAll.c6.2.1 := laws_FnWaysLeadOfAll.c9.2.2 ⟨laws_FnWaysLeadOfAll.d10⟩ ⟨laws_FnWaysLeadOfAll.d13⟩

theorem laws_FnWaysLeadOfAll.d7 : laws_FnWaysLeadOfAll.c6.1 := laws_FnWaysLeadOfAll.c7.2 ⟨laws_FnWaysLeadOfAll.c8⟩

theorem laws_FnWaysLeadOfAll.d6 : laws_FnWaysLeadOfAll.c1.2.1 := laws_FnWaysLeadOfAll.c6.2.2 ⟨laws_FnWaysLeadOfAll.d7⟩ ⟨laws_FnWaysLeadOfAll.d9⟩

theorem laws_FnWaysLeadOfAll.d3 : laws_FnWaysLeadOfAll.c2.1 := laws_FnWaysLeadOfAll.c3.2.2 ⟨laws_FnWaysLeadOfAll.c4⟩ ⟨laws_FnWaysLeadOfAll.c5⟩

theorem laws_FnWaysLeadOfAll.d2 : laws_FnWaysLeadOfAll.c1.1 := laws_FnWaysLeadOfAll.c2.2 ⟨laws_FnWaysLeadOfAll.d3⟩

theorem laws_FnWaysLeadOfAll.d1 : laws_FnWaysLeadOfAll.c0.1 := laws_FnWaysLeadOfAll.c1.2.2 ⟨laws_FnWaysLeadOfAll.d2⟩ ⟨laws_FnWaysLeadOfAll.d6⟩

theorem laws_FnWaysLeadOfAll.calls (k : Nat) (a0 : ByteArray) (a1 : ByteArray) (a2 : Int) (A3 : Option Addr) (c3 : Nat) (l3 : List Int) (a4 : ByteArray) (r : Bool) (w : World) (hr3 : Kd.C (Kd.int .i64) w A3 l3.length l3) (hc3 : l3.length ≤ c3) (h : laws_FnWaysLeadOfAll.f k a0 a1 a2 l3 a4 = some r) :
    Calls Tryd.prog 3 #[.string a0, .string a1, .int .i64 a2, .slice A3 l3.length c3, .string a4] w fun e w' => e = .returned (.bool r) ∧ Below w.heap.size w w' := laws_FnWaysLeadOfAll.c0.2 ⟨laws_FnWaysLeadOfAll.d1⟩ k a0 a1 a2 A3 c3 l3 a4 r w hr3 hc3 h
theorem laws_FnWaysLeadOfAll.walk (P : laws_FnWaysLeadOfAll.Pure) (a0 : ByteArray) (a1 : ByteArray) (a2 : Int) (a3 : Option Addr) (len3 cap3 : Nat) (z3 : List Int) (a4 : ByteArray) (w : World) (w0 : a0.size ≤ 140737488351232) (w1 : a1.size ≤ 140737488351232) (w2 : (Lit.int .i64 a2).wf = true) (w3 : (a3 = none ∧ len3 = 0 ∧ cap3 = 0 ∧ z3 = []) ∨ ∃ x, a3 = some x ∧ len3 ≤ cap3 ∧ cap3 ≤ maxLen ∧ z3.length = cap3 ∧ (∀ i, i < z3.length → w.cell? (x.add i) = some (.int .i64 (z3.getD i 0))) ∧ ∀ n ∈ z3, (Lit.int .i64 n).wf = true) (y3 : len3 * 8 ≤ 140737488351232) (w4 : a4.size ≤ 140737488351232) :
    Calls Tryd.prog 3 #[.string a0, .string a1, .int .i64 a2, .slice a3 len3 cap3, .string a4] w fun e w' => e = .returned (.bool true) ∧ Below w.heap.size w w' := by
  obtain ⟨l3, rfl, hr3, hm3, hw3, hc3⟩ := ReadsInt.ofRowC w3
  obtain ⟨k, h⟩ := P a0 a1 a2 l3 a4 w0 w1 w2 hm3 y3 hw3 w4
  refine (laws_FnWaysLeadOfAll.calls k a0 a1 a2 _ _ l3 a4 true w (Kd.C_of_reads (d := (0 : Int)) (h1 := fun _ => rfl) hr3) hc3 h).mono ?_
  rintro e w' ⟨rfl, hd⟩
  exact ⟨rfl, hd⟩

end Go.Proofs.YtlkkkkmkaghnkaaDoor.A
