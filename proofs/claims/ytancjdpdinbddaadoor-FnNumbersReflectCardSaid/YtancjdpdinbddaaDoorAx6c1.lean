-- written by a program of this session's over the kit's print (xp.py)
import Derived.Test.YtancjdpdinbddaaDoorAx0
import Derived.Test.YtancjdpdinbddaaDoorAx1
import Derived.Test.YtancjdpdinbddaaDoorAx2
import Derived.Test.YtancjdpdinbddaaDoorAx3
import Derived.Test.YtancjdpdinbddaaDoorAx4
import Derived.Test.YtancjdpdinbddaaDoorAx5
import Derived.Test.YtancjdpdinbddaaDoorAx6
namespace Go.Proofs.YtancjdpdinbddaaDoor.A
open Go.RowKit Go.Proofs.YtancjdpdinbddaaDoorW.PrintWords Go.Proofs.YtancjdpdinbddaaDoorW.PrintLast Go.Proofs.YtancjdpdinbddaaDoorW.PrintMore
attribute [local go_sem] max2_int min2_int max_two min_two max_three min_three max_four min_four   -- for this text's walks alone
set_option linter.unusedVariables false
set_option linter.unusedSimpArgs false

set_option maxHeartbeats 8000000 in
set_option maxRecDepth 100000 in
def laws_FnNumbersReflect.c0 : PSigma fun P0_ : Prop => Hole P0_ → (∀ (k : Nat) (A0 : Option Addr) (c0 : Nat) (l0 : List Int) (A1 : Option Addr) (c1 : Nat) (l1 : List Int) (r : Bool) (w : World) (hr0 : Kd.C (Kd.int .u8) w A0 l0.length l0) (hc0 : l0.length ≤ c0) (hr1 : Kd.C (Kd.int .u8) w A1 l1.length l1) (hc1 : l1.length ≤ c1) (h : laws_FnNumbersReflect.f k l0 l1 = some r), Calls Tryd.prog 3 #[.slice A0 l0.length c0, .slice A1 l1.length c1] w fun e w' => e = .returned (.bool r) ∧ Below w.heap.size w w') := by
  refine' ⟨_, fun HP0_ => _⟩
  rotate_left 1
  intro k A0 c0 l0 A1 c1 l1 r w hr0 hc0 hr1 hc1 h
  have HR0 := Aside0.mk hr0
  have HC0 := Aside0.mk hc0
  clear hr0 hc0
  have HR1 := Aside0.mk hr1
  have HC1 := Aside0.mk hc1
  clear hr1 hc1
  have HB := Aside0.mk (Below.refl w.heap.size w)
  have H : ((laws_big.f l0 l1).bind fun t246 => (if t246 = true then (some true) else ((spec_DrawReflectedOf.f k l0).bind fun t247 => ((impl_ReflectedOf.f t247).bind fun bt248 => ((spec_ReflectedOf.f t247).bind fun bt250 => ((impl_NumberOfReflected.f k t247).bind fun bt252 => ((spec_NumberOfReflected.f k t247).bind fun bt254 => ((impl_ChangedDigit.f k t247).bind fun bt256 => ((spec_ChangedDigit.f k t247).bind fun bt258 => (if (bt248.2 != bt250.2) = true then (laws_FnNumbersReflect.j0 k l1 t247 bt248.1 bt248.2 bt256.1 true) else (if bt248.1 = bt250.1 then (if (bt252.2 != bt254.2) = true then (laws_FnNumbersReflect.j0 k l1 t247 bt248.1 bt248.2 bt256.1 true) else (if bt252.1 = bt254.1 then (if (bt256.2 != bt258.2) = true then (laws_FnNumbersReflect.j0 k l1 t247 bt248.1 bt248.2 bt256.1 true) else (if bt256.1 = bt258.1 then (if (bt252.2 != bt248.2) = true then (laws_FnNumbersReflect.j0 k l1 t247 bt248.1 bt248.2 bt256.1 true) else (laws_FnNumbersReflect.j0 k l1 t247 bt248.1 bt248.2 bt256.1 (bt256.2 != bt248.2))) else (laws_FnNumbersReflect.j0 k l1 t247 bt248.1 bt248.2 bt256.1 true))) else (laws_FnNumbersReflect.j0 k l1 t247 bt248.1 bt248.2 bt256.1 true))) else (laws_FnNumbersReflect.j0 k l1 t247 bt248.1 bt248.2 bt256.1 true)))))))))))) = some r := h
  clear h
  replace H := Option.bind_eq_some_iff.mp H
  obtain ⟨t246, A30, H⟩ := H
  replace H : (if t246 = true then (some true) else ((spec_DrawReflectedOf.f k l0).bind fun t247 => ((impl_ReflectedOf.f t247).bind fun bt248 => ((spec_ReflectedOf.f t247).bind fun bt250 => ((impl_NumberOfReflected.f k t247).bind fun bt252 => ((spec_NumberOfReflected.f k t247).bind fun bt254 => ((impl_ChangedDigit.f k t247).bind fun bt256 => ((spec_ChangedDigit.f k t247).bind fun bt258 => (if (bt248.2 != bt250.2) = true then (laws_FnNumbersReflect.j0 k l1 t247 bt248.1 bt248.2 bt256.1 true) else (if bt248.1 = bt250.1 then (if (bt252.2 != bt254.2) = true then (laws_FnNumbersReflect.j0 k l1 t247 bt248.1 bt248.2 bt256.1 true) else (if bt252.1 = bt254.1 then (if (bt256.2 != bt258.2) = true then (laws_FnNumbersReflect.j0 k l1 t247 bt248.1 bt248.2 bt256.1 true) else (if bt256.1 = bt258.1 then (if (bt252.2 != bt248.2) = true then (laws_FnNumbersReflect.j0 k l1 t247 bt248.1 bt248.2 bt256.1 true) else (laws_FnNumbersReflect.j0 k l1 t247 bt248.1 bt248.2 bt256.1 (bt256.2 != bt248.2))) else (laws_FnNumbersReflect.j0 k l1 t247 bt248.1 bt248.2 bt256.1 true))) else (laws_FnNumbersReflect.j0 k l1 t247 bt248.1 bt248.2 bt256.1 true))) else (laws_FnNumbersReflect.j0 k l1 t247 bt248.1 bt248.2 bt256.1 true))))))))))) = some r := H
  have A3 := Aside0.mk A30
  clear A30
  by_cases c4 : t246 = true
  · subst c4
    have H1 : (some true) = some r := by rw [if_pos rfl] at H; exact H
    clear H
    have H := H1
    clear H1
    obtain rfl := Option.some.inj H
    go_enter Tryd.func3, Tryd.ntmps3
    try dsimp only [List.append]
    go_wp2_with (first | ((with_reducible refine gate_callee (f := 4) rfl ?_); refine goesL_ (some 66) rfl rfl Tryd.func4 (by kernel_rfl) rfl #[.slice A0 l0.length c0, .slice A1 l1.length c1] rfl (by (try simp only [List.map_toArray, List.map_cons, List.map_nil]); first | done | rfl | (simp only [List.length_drop, List.length_take]; rfl)) ?_; (with_reducible refine (laws_big.calls _ _ l0 _ _ l1 true _ ?side1 ?side2 ?side3 ?side4 A3.out).mono ?_); (case side1 => repeat (first | exact HR0.out | (with_reducible refine Kd.C_alloc ?_ _) | (with_reducible refine Kd.C_drewN ?_ _) | (with_reducible refine Kd.C_drew ?_))); (case side2 => exact HC0.out); (case side3 => repeat (first | exact HR1.out | (with_reducible refine Kd.C_alloc ?_ _) | (with_reducible refine Kd.C_drewN ?_ _) | (with_reducible refine Kd.C_drew ?_))); (case side4 => exact HC1.out); rintro e w' ⟨rfl, ⟨nd, rfl⟩⟩; refine ⟨_, rfl, ?_⟩))
    go_ret
    exact ⟨by first | rfl | (simp [errW_none, errW_some] <;> rfl) | (simp [*, errW_none, errW_some] <;> rfl), by repeat (first | (with_reducible first | exact HB.out | apply below_alloc | apply pw_below_drewN | apply below_drew1) | exact HB.out)⟩
  · replace c4 := Bool.eq_false_iff.mpr c4
    subst c4
    have H1 : ((spec_DrawReflectedOf.f k l0).bind fun t247 => ((impl_ReflectedOf.f t247).bind fun bt248 => ((spec_ReflectedOf.f t247).bind fun bt250 => ((impl_NumberOfReflected.f k t247).bind fun bt252 => ((spec_NumberOfReflected.f k t247).bind fun bt254 => ((impl_ChangedDigit.f k t247).bind fun bt256 => ((spec_ChangedDigit.f k t247).bind fun bt258 => (if (bt248.2 != bt250.2) = true then (laws_FnNumbersReflect.j0 k l1 t247 bt248.1 bt248.2 bt256.1 true) else (if bt248.1 = bt250.1 then (if (bt252.2 != bt254.2) = true then (laws_FnNumbersReflect.j0 k l1 t247 bt248.1 bt248.2 bt256.1 true) else (if bt252.1 = bt254.1 then (if (bt256.2 != bt258.2) = true then (laws_FnNumbersReflect.j0 k l1 t247 bt248.1 bt248.2 bt256.1 true) else (if bt256.1 = bt258.1 then (if (bt252.2 != bt248.2) = true then (laws_FnNumbersReflect.j0 k l1 t247 bt248.1 bt248.2 bt256.1 true) else (laws_FnNumbersReflect.j0 k l1 t247 bt248.1 bt248.2 bt256.1 (bt256.2 != bt248.2))) else (laws_FnNumbersReflect.j0 k l1 t247 bt248.1 bt248.2 bt256.1 true))) else (laws_FnNumbersReflect.j0 k l1 t247 bt248.1 bt248.2 bt256.1 true))) else (laws_FnNumbersReflect.j0 k l1 t247 bt248.1 bt248.2 bt256.1 true)))))))))) = some r := by rw [if_neg (show ¬ (false = true) by decide)] at H; exact H
    clear H
    have H := H1
    clear H1
    replace H := Option.bind_eq_some_iff.mp H
    obtain ⟨t247, A50, H⟩ := H
    replace H : ((impl_ReflectedOf.f t247).bind fun bt248 => ((spec_ReflectedOf.f t247).bind fun bt250 => ((impl_NumberOfReflected.f k t247).bind fun bt252 => ((spec_NumberOfReflected.f k t247).bind fun bt254 => ((impl_ChangedDigit.f k t247).bind fun bt256 => ((spec_ChangedDigit.f k t247).bind fun bt258 => (if (bt248.2 != bt250.2) = true then (laws_FnNumbersReflect.j0 k l1 t247 bt248.1 bt248.2 bt256.1 true) else (if bt248.1 = bt250.1 then (if (bt252.2 != bt254.2) = true then (laws_FnNumbersReflect.j0 k l1 t247 bt248.1 bt248.2 bt256.1 true) else (if bt252.1 = bt254.1 then (if (bt256.2 != bt258.2) = true then (laws_FnNumbersReflect.j0 k l1 t247 bt248.1 bt248.2 bt256.1 true) else (if bt256.1 = bt258.1 then (if (bt252.2 != bt248.2) = true then (laws_FnNumbersReflect.j0 k l1 t247 bt248.1 bt248.2 bt256.1 true) else (laws_FnNumbersReflect.j0 k l1 t247 bt248.1 bt248.2 bt256.1 (bt256.2 != bt248.2))) else (laws_FnNumbersReflect.j0 k l1 t247 bt248.1 bt248.2 bt256.1 true))) else (laws_FnNumbersReflect.j0 k l1 t247 bt248.1 bt248.2 bt256.1 true))) else (laws_FnNumbersReflect.j0 k l1 t247 bt248.1 bt248.2 bt256.1 true))))))))) = some r := H
    have A5 := Aside0.mk A50
    clear A50
    replace H := Option.bind_eq_some_iff.mp H
    obtain ⟨⟨t248, t249⟩, A60, H⟩ := H
    replace H : ((spec_ReflectedOf.f t247).bind fun bt250 => ((impl_NumberOfReflected.f k t247).bind fun bt252 => ((spec_NumberOfReflected.f k t247).bind fun bt254 => ((impl_ChangedDigit.f k t247).bind fun bt256 => ((spec_ChangedDigit.f k t247).bind fun bt258 => (if (t249 != bt250.2) = true then (laws_FnNumbersReflect.j0 k l1 t247 t248 t249 bt256.1 true) else (if t248 = bt250.1 then (if (bt252.2 != bt254.2) = true then (laws_FnNumbersReflect.j0 k l1 t247 t248 t249 bt256.1 true) else (if bt252.1 = bt254.1 then (if (bt256.2 != bt258.2) = true then (laws_FnNumbersReflect.j0 k l1 t247 t248 t249 bt256.1 true) else (if bt256.1 = bt258.1 then (if (bt252.2 != t249) = true then (laws_FnNumbersReflect.j0 k l1 t247 t248 t249 bt256.1 true) else (laws_FnNumbersReflect.j0 k l1 t247 t248 t249 bt256.1 (bt256.2 != t249))) else (laws_FnNumbersReflect.j0 k l1 t247 t248 t249 bt256.1 true))) else (laws_FnNumbersReflect.j0 k l1 t247 t248 t249 bt256.1 true))) else (laws_FnNumbersReflect.j0 k l1 t247 t248 t249 bt256.1 true)))))))) = some r := H
    have A6 := Aside0.mk A60
    clear A60
    replace H := Option.bind_eq_some_iff.mp H
    obtain ⟨⟨t250, t251⟩, A70, H⟩ := H
    replace H : ((impl_NumberOfReflected.f k t247).bind fun bt252 => ((spec_NumberOfReflected.f k t247).bind fun bt254 => ((impl_ChangedDigit.f k t247).bind fun bt256 => ((spec_ChangedDigit.f k t247).bind fun bt258 => (if (t249 != t251) = true then (laws_FnNumbersReflect.j0 k l1 t247 t248 t249 bt256.1 true) else (if t248 = t250 then (if (bt252.2 != bt254.2) = true then (laws_FnNumbersReflect.j0 k l1 t247 t248 t249 bt256.1 true) else (if bt252.1 = bt254.1 then (if (bt256.2 != bt258.2) = true then (laws_FnNumbersReflect.j0 k l1 t247 t248 t249 bt256.1 true) else (if bt256.1 = bt258.1 then (if (bt252.2 != t249) = true then (laws_FnNumbersReflect.j0 k l1 t247 t248 t249 bt256.1 true) else (laws_FnNumbersReflect.j0 k l1 t247 t248 t249 bt256.1 (bt256.2 != t249))) else (laws_FnNumbersReflect.j0 k l1 t247 t248 t249 bt256.1 true))) else (laws_FnNumbersReflect.j0 k l1 t247 t248 t249 bt256.1 true))) else (laws_FnNumbersReflect.j0 k l1 t247 t248 t249 bt256.1 true))))))) = some r := H
    have A7 := Aside0.mk A70
    clear A70
    replace H := Option.bind_eq_some_iff.mp H
    obtain ⟨⟨t252, t253⟩, A80, H⟩ := H
    replace H : ((spec_NumberOfReflected.f k t247).bind fun bt254 => ((impl_ChangedDigit.f k t247).bind fun bt256 => ((spec_ChangedDigit.f k t247).bind fun bt258 => (if (t249 != t251) = true then (laws_FnNumbersReflect.j0 k l1 t247 t248 t249 bt256.1 true) else (if t248 = t250 then (if (t253 != bt254.2) = true then (laws_FnNumbersReflect.j0 k l1 t247 t248 t249 bt256.1 true) else (if t252 = bt254.1 then (if (bt256.2 != bt258.2) = true then (laws_FnNumbersReflect.j0 k l1 t247 t248 t249 bt256.1 true) else (if bt256.1 = bt258.1 then (if (t253 != t249) = true then (laws_FnNumbersReflect.j0 k l1 t247 t248 t249 bt256.1 true) else (laws_FnNumbersReflect.j0 k l1 t247 t248 t249 bt256.1 (bt256.2 != t249))) else (laws_FnNumbersReflect.j0 k l1 t247 t248 t249 bt256.1 true))) else (laws_FnNumbersReflect.j0 k l1 t247 t248 t249 bt256.1 true))) else (laws_FnNumbersReflect.j0 k l1 t247 t248 t249 bt256.1 true)))))) = some r := H
    have A8 := Aside0.mk A80
    clear A80
    replace H := Option.bind_eq_some_iff.mp H
    obtain ⟨⟨t254, t255⟩, A90, H⟩ := H
    replace H : ((impl_ChangedDigit.f k t247).bind fun bt256 => ((spec_ChangedDigit.f k t247).bind fun bt258 => (if (t249 != t251) = true then (laws_FnNumbersReflect.j0 k l1 t247 t248 t249 bt256.1 true) else (if t248 = t250 then (if (t253 != t255) = true then (laws_FnNumbersReflect.j0 k l1 t247 t248 t249 bt256.1 true) else (if t252 = t254 then (if (bt256.2 != bt258.2) = true then (laws_FnNumbersReflect.j0 k l1 t247 t248 t249 bt256.1 true) else (if bt256.1 = bt258.1 then (if (t253 != t249) = true then (laws_FnNumbersReflect.j0 k l1 t247 t248 t249 bt256.1 true) else (laws_FnNumbersReflect.j0 k l1 t247 t248 t249 bt256.1 (bt256.2 != t249))) else (laws_FnNumbersReflect.j0 k l1 t247 t248 t249 bt256.1 true))) else (laws_FnNumbersReflect.j0 k l1 t247 t248 t249 bt256.1 true))) else (laws_FnNumbersReflect.j0 k l1 t247 t248 t249 bt256.1 true))))) = some r := H
    have A9 := Aside0.mk A90
    clear A90
    replace H := Option.bind_eq_some_iff.mp H
    obtain ⟨⟨t256, t257⟩, A100, H⟩ := H
    replace H : ((spec_ChangedDigit.f k t247).bind fun bt258 => (if (t249 != t251) = true then (laws_FnNumbersReflect.j0 k l1 t247 t248 t249 t256 true) else (if t248 = t250 then (if (t253 != t255) = true then (laws_FnNumbersReflect.j0 k l1 t247 t248 t249 t256 true) else (if t252 = t254 then (if (t257 != bt258.2) = true then (laws_FnNumbersReflect.j0 k l1 t247 t248 t249 t256 true) else (if t256 = bt258.1 then (if (t253 != t249) = true then (laws_FnNumbersReflect.j0 k l1 t247 t248 t249 t256 true) else (laws_FnNumbersReflect.j0 k l1 t247 t248 t249 t256 (t257 != t249))) else (laws_FnNumbersReflect.j0 k l1 t247 t248 t249 t256 true))) else (laws_FnNumbersReflect.j0 k l1 t247 t248 t249 t256 true))) else (laws_FnNumbersReflect.j0 k l1 t247 t248 t249 t256 true)))) = some r := H
    have A10 := Aside0.mk A100
    clear A100
    replace H := Option.bind_eq_some_iff.mp H
    obtain ⟨⟨t258, t259⟩, A110, H⟩ := H
    replace H : (if (t249 != t251) = true then (laws_FnNumbersReflect.j0 k l1 t247 t248 t249 t256 true) else (if t248 = t250 then (if (t253 != t255) = true then (laws_FnNumbersReflect.j0 k l1 t247 t248 t249 t256 true) else (if t252 = t254 then (if (t257 != t259) = true then (laws_FnNumbersReflect.j0 k l1 t247 t248 t249 t256 true) else (if t256 = t258 then (if (t253 != t249) = true then (laws_FnNumbersReflect.j0 k l1 t247 t248 t249 t256 true) else (laws_FnNumbersReflect.j0 k l1 t247 t248 t249 t256 (t257 != t249))) else (laws_FnNumbersReflect.j0 k l1 t247 t248 t249 t256 true))) else (laws_FnNumbersReflect.j0 k l1 t247 t248 t249 t256 true))) else (laws_FnNumbersReflect.j0 k l1 t247 t248 t249 t256 true))) = some r := H
    have A11 := Aside0.mk A110
    clear A110
    have HC12 := Aside0.mk H
    clear H
    go_enter Tryd.func3, Tryd.ntmps3
    try dsimp only [List.append]
    go_upto_region 10 with (first | ((with_reducible refine gate_callee (f := 4) rfl ?_); refine goesL_ (some 66) rfl rfl Tryd.func4 (by kernel_rfl) rfl #[.slice A0 l0.length c0, .slice A1 l1.length c1] rfl (by (try simp only [List.map_toArray, List.map_cons, List.map_nil]); first | done | rfl | (simp only [List.length_drop, List.length_take]; rfl)) ?_; (with_reducible refine (laws_big.calls _ _ l0 _ _ l1 false _ ?side1 ?side2 ?side3 ?side4 A3.out).mono ?_); (case side1 => repeat (first | exact HR0.out | (with_reducible refine Kd.C_alloc ?_ _) | (with_reducible refine Kd.C_drewN ?_ _) | (with_reducible refine Kd.C_drew ?_))); (case side2 => exact HC0.out); (case side3 => repeat (first | exact HR1.out | (with_reducible refine Kd.C_alloc ?_ _) | (with_reducible refine Kd.C_drewN ?_ _) | (with_reducible refine Kd.C_drew ?_))); (case side4 => exact HC1.out); rintro e w' ⟨rfl, ⟨nd, rfl⟩⟩; refine ⟨_, rfl, ?_⟩) | ((with_reducible refine gate_callee (f := 5) rfl ?_); refine goesL_ (some 68) rfl rfl Tryd.func5 (by kernel_rfl) rfl #[.slice A0 l0.length c0] rfl (by (try simp only [List.map_toArray, List.map_cons, List.map_nil]); first | done | rfl | (simp only [List.length_drop, List.length_take]; rfl)) ?_; (with_reducible refine (spec_DrawReflectedOf.calls k _ _ l0 t247 _ ?side1 ?side2 A5.out).mono ?_); (case side1 => repeat (first | exact HR0.out | (with_reducible refine Kd.C_alloc ?_ _) | (with_reducible refine Kd.C_drewN ?_ _) | (with_reducible refine Kd.C_drew ?_))); (case side2 => exact HC0.out); rintro e w13 ⟨rfl, hb⟩; refine ⟨_, rfl, ?_⟩; have n0_ := Aside0.mk (below_step (by repeat (first | (with_reducible first | exact HB.out | apply below_alloc | apply pw_below_drewN | apply below_drew1) | exact HB.out)) hb); clear HB; have HB := n0_; clear n0_; (try clear hb); (try clear hb2); (try clear hk); (try clear hi)) | ((with_reducible refine gate_callee (f := 6) rfl ?_); refine goesL_ (some 71) rfl rfl Tryd.func6 (by kernel_rfl) rfl #[.int .i64 t247] rfl (by (try simp only [List.map_toArray, List.map_cons, List.map_nil]); first | done | rfl | (simp only [List.length_drop, List.length_take]; rfl)) ?_; (with_reducible refine (impl_ReflectedOf.calls t247 t248 t249 _ A6.out).mono ?_); rintro e w' ⟨rfl, ⟨nd, rfl⟩⟩; refine ⟨_, rfl, ?_⟩) | ((with_reducible refine gate_callee (f := 7) rfl ?_); refine goesL_ (some 76) rfl rfl Tryd.func7 (by kernel_rfl) rfl #[.int .i64 t247] rfl (by (try simp only [List.map_toArray, List.map_cons, List.map_nil]); first | done | rfl | (simp only [List.length_drop, List.length_take]; rfl)) ?_; (with_reducible refine (spec_ReflectedOf.calls t247 t250 t251 _ A7.out).mono ?_); rintro e w' ⟨rfl, ⟨nd, rfl⟩⟩; refine ⟨_, rfl, ?_⟩) | ((with_reducible refine gate_callee (f := 8) rfl ?_); refine goesL_ (some 81) rfl rfl Tryd.func8 (by kernel_rfl) rfl #[.int .i64 t247] rfl (by (try simp only [List.map_toArray, List.map_cons, List.map_nil]); first | done | rfl | (simp only [List.length_drop, List.length_take]; rfl)) ?_; (with_reducible refine (impl_NumberOfReflected.calls k t247 t252 t253 _ A8.out).mono ?_); rintro e w' ⟨rfl, ⟨nd, rfl⟩⟩; refine ⟨_, rfl, ?_⟩) | ((with_reducible refine gate_callee (f := 9) rfl ?_); refine goesL_ (some 86) rfl rfl Tryd.func9 (by kernel_rfl) rfl #[.int .i64 t247] rfl (by (try simp only [List.map_toArray, List.map_cons, List.map_nil]); first | done | rfl | (simp only [List.length_drop, List.length_take]; rfl)) ?_; (with_reducible refine (spec_NumberOfReflected.calls k t247 t254 t255 _ A9.out).mono ?_); rintro e w' ⟨rfl, ⟨nd, rfl⟩⟩; refine ⟨_, rfl, ?_⟩) | ((with_reducible refine gate_callee (f := 10) rfl ?_); refine goesL_ (some 91) rfl rfl Tryd.func10 (by kernel_rfl) rfl #[.int .i64 t247] rfl (by (try simp only [List.map_toArray, List.map_cons, List.map_nil]); first | done | rfl | (simp only [List.length_drop, List.length_take]; rfl)) ?_; (with_reducible refine (impl_ChangedDigit.calls k t247 t256 t257 _ A10.out).mono ?_); rintro e w' ⟨rfl, ⟨nd, rfl⟩⟩; refine ⟨_, rfl, ?_⟩) | ((with_reducible refine gate_callee (f := 11) rfl ?_); refine goesL_ (some 96) rfl rfl Tryd.func11 (by kernel_rfl) rfl #[.int .i64 t247] rfl (by (try simp only [List.map_toArray, List.map_cons, List.map_nil]); first | done | rfl | (simp only [List.length_drop, List.length_take]; rfl)) ?_; (with_reducible refine (spec_ChangedDigit.calls k t247 t258 t259 _ A11.out).mono ?_); rintro e w' ⟨rfl, ⟨nd, rfl⟩⟩; refine ⟨_, rfl, ?_⟩))
    (try simp only [Act.put, List.setIfInBounds_toArray, List.set_cons_zero, List.set_cons_succ])
    refine wp_cutF [o_,o_,o_,o_,o_,o_,o_,o_,o_,o_,o_,o_,o_,o_,o_,o_,o_,o_,o_,o_,o_,o_,o_,o_,o_,o_,o_,o_,o_,o_,o_,o_,o_,o_,o_,o_,o_,o_,o_,o_,o_,o_,o_,o_,o_,o_,o_,o_,o_,o_,o_,o_,o_,o_,o_,o_,o_,o_,o_,o_,o_,o_,o_,o_,i_,i_,i_,i_,i_,i_,i_,i_,i_,i_,i_,i_,i_,i_,i_,i_,i_,i_,i_,i_,i_,i_,i_,i_,i_,i_,i_,i_,i_,i_,i_,i_,i_,i_,i_,i_,i_,i_,i_,i_,i_,i_,i_,i_,i_,i_,i_,i_,i_,i_,i_,i_,i_,i_,i_,i_,i_,i_,i_,i_,i_,i_,i_,i_,i_,i_,i_,i_,i_,i_,i_,i_,i_,i_,i_,i_,i_,i_,i_,i_,i_,i_,i_,i_,i_,i_,i_,i_,i_,i_,i_,i_,i_,i_,i_,i_,i_,i_,i_,i_,i_,i_,i_,i_,i_,i_,i_,i_,i_,i_,i_,i_,i_,i_,i_,i_,i_,i_,i_,i_,i_,i_,i_,i_,i_,i_,i_,i_,i_,i_,i_,i_,i_,i_,i_,i_,i_,i_,i_,i_,i_,i_,i_,i_,i_,i_,i_,i_,i_,i_,i_,i_,i_,i_,i_,i_,i_,i_,i_,i_,i_,i_,i_,i_,i_,i_,i_,i_,i_,i_,i_,i_,i_,i_,i_,i_,i_,i_,i_,i_,i_,i_,i_,i_,i_,i_,i_,i_,i_,i_,i_,i_,i_,i_,i_,i_,i_,i_,i_,i_,i_,i_,i_,i_,i_,i_,i_,i_,i_,i_,i_,i_,i_,i_,i_,i_,i_,i_,i_,i_,i_,i_,i_,i_,i_,i_,i_,i_,i_,i_,i_,i_,i_,i_,i_,i_,i_,i_,i_,i_,i_,i_,i_,i_,i_,i_,i_,i_,i_,i_,i_,i_,i_,i_,i_,i_,i_,i_,i_,i_,i_,i_,i_,i_,i_,i_,i_,i_,i_,i_,i_,i_,i_,i_,i_,i_,i_,i_,i_,i_,i_,i_,i_,i_,i_,i_,i_,i_,i_,i_,i_,i_,i_,i_,i_,i_,i_,i_,i_,i_,i_,i_,i_,i_,i_,i_,i_,i_,i_,i_,i_,i_,i_,i_,i_,i_,i_,i_,i_,i_,i_,i_,i_,i_,i_,i_,i_,i_,i_,i_,i_,i_,i_,i_,i_,i_,i_,i_,i_,i_,i_,i_] (fun f_ wc => ∃ (kq : Nat) (x136_11 : Bool), (f_ 136) = .bool x136_11 ∧ Aside0 (laws_FnNumbersReflect.j0 kq l1 t247 t248 t249 t256 x136_11 = some r) ∧ Aside0 (kq ≤ k) ∧ Aside0 (Below w.heap.size w wc)) ?rest ?first
    case first =>
      intro J_ K_ hJ_ hK_
      have H := HC12.out
      clear HC12
      by_cases c14 : (t249 != t251) = true
      · rw [if_pos c14] at H
        have c14b0 : (t249 != t251) = true := c14
        (try (have c14b1 : decide (t249 = t251) = false := by simpa using c14))
        (try (have c14b2 : (t249 == t251) = false := by simpa using c14))
        (try (have c14b3 : ¬ (t249 = t251) := by simpa using c14))
        clear c14
        (first | rw [c14b0] | (simp only [i64_w, i32_w]; rw [c14b0]) | skip)
        have H' := Aside0.mk H
        clear H
        go_wp2
        refine Met.intro (hJ_ _ _ ?mg_ ?rel)
        case mg_ => kernel_rfl
        case rel => exact ⟨_, (true), (by first | rfl | ((conv => lhs; whnf); first | rfl | (simp; done) | (simp [*]; done))), H', ⟨by first | omega | exact Nat.le_refl _⟩, ⟨by repeat (first | (with_reducible first | exact HB.out | apply below_alloc | apply pw_below_drewN | apply below_drew1) | exact HB.out)⟩⟩
      · rw [if_neg c14] at H
        have c14b0 : (t249 != t251) = false := by simpa using c14
        (try (have c14b1 : decide (t249 = t251) = true := by simpa using c14))
        (try (have c14b2 : (t249 == t251) = true := by simpa using c14))
        clear c14
        (try (have c14e : t249 = t251 := by first | simpa using c14b0 | (simpa using (bne_eq_false_iff_eq.mp c14b0).symm)); (subst c14e))
        (first | rw [c14b0] | (simp only [i64_w, i32_w]; rw [c14b0]) | skip)
        by_cases c15 : t248 = t250
        · rw [if_pos c15] at H
          have c15b0 : (t248 == t250) = true := beq_iff_eq.mpr c15
          have c15b1 : (t248 != t250) = false := bne_eq_false_iff_eq.mpr c15
          clear c15
          by_cases c16 : (t253 != t255) = true
          · rw [if_pos c16] at H
            have c16b0 : (t253 != t255) = true := c16
            (try (have c16b1 : decide (t253 = t255) = false := by simpa using c16))
            (try (have c16b2 : (t253 == t255) = false := by simpa using c16))
            (try (have c16b3 : ¬ (t253 = t255) := by simpa using c16))
            clear c16
            have H' := Aside0.mk H
            clear H
            go_wp2
            refine Met.intro (hJ_ _ _ ?mg_ ?rel)
            case mg_ => kernel_rfl
            case rel => exact ⟨_, (true), (by first | rfl | ((conv => lhs; whnf); first | rfl | (simp; done) | (simp [*]; done))), H', ⟨by first | omega | exact Nat.le_refl _⟩, ⟨by repeat (first | (with_reducible first | exact HB.out | apply below_alloc | apply pw_below_drewN | apply below_drew1) | exact HB.out)⟩⟩
          · rw [if_neg c16] at H
            have c16b0 : (t253 != t255) = false := by simpa using c16
            (try (have c16b1 : decide (t253 = t255) = true := by simpa using c16))
            (try (have c16b2 : (t253 == t255) = true := by simpa using c16))
            clear c16
            (try (have c16e : t253 = t255 := by first | simpa using c16b0 | (simpa using (bne_eq_false_iff_eq.mp c16b0).symm)); (subst c16e))
            by_cases c17 : t252 = t254
            · rw [if_pos c17] at H
              have c17b0 : (t252 == t254) = true := beq_iff_eq.mpr c17
              have c17b1 : (t252 != t254) = false := bne_eq_false_iff_eq.mpr c17
              clear c17
              by_cases c18 : (t257 != t259) = true
              · rw [if_pos c18] at H
                have c18b0 : (t257 != t259) = true := c18
                (try (have c18b1 : decide (t257 = t259) = false := by simpa using c18))
                (try (have c18b2 : (t257 == t259) = false := by simpa using c18))
                (try (have c18b3 : ¬ (t257 = t259) := by simpa using c18))
                clear c18
                have H' := Aside0.mk H
                clear H
                go_wp2
                refine Met.intro (hJ_ _ _ ?mg_ ?rel)
                case mg_ => kernel_rfl
                case rel => exact ⟨_, (true), (by first | rfl | ((conv => lhs; whnf); first | rfl | (simp; done) | (simp [*]; done))), H', ⟨by first | omega | exact Nat.le_refl _⟩, ⟨by repeat (first | (with_reducible first | exact HB.out | apply below_alloc | apply pw_below_drewN | apply below_drew1) | exact HB.out)⟩⟩
              · rw [if_neg c18] at H
                have c18b0 : (t257 != t259) = false := by simpa using c18
                (try (have c18b1 : decide (t257 = t259) = true := by simpa using c18))
                (try (have c18b2 : (t257 == t259) = true := by simpa using c18))
                clear c18
                (try (have c18e : t257 = t259 := by first | simpa using c18b0 | (simpa using (bne_eq_false_iff_eq.mp c18b0).symm)); (subst c18e))
                by_cases c19 : t256 = t258
                · rw [if_pos c19] at H
                  have c19b0 : (t256 == t258) = true := beq_iff_eq.mpr c19
                  have c19b1 : (t256 != t258) = false := bne_eq_false_iff_eq.mpr c19
                  clear c19
                  by_cases c20 : (t253 != t249) = true
                  · rw [if_pos c20] at H
                    have c20b0 : (t253 != t249) = true := c20
                    (try (have c20b1 : decide (t253 = t249) = false := by simpa using c20))
                    (try (have c20b2 : (t253 == t249) = false := by simpa using c20))
                    (try (have c20b3 : ¬ (t253 = t249) := by simpa using c20))
                    clear c20
                    have H' := Aside0.mk H
                    clear H
                    go_wp2
                    refine Met.intro (hJ_ _ _ ?mg_ ?rel)
                    case mg_ => kernel_rfl
                    case rel => exact ⟨_, (true), (by first | rfl | ((conv => lhs; whnf); first | rfl | (simp; done) | (simp [*]; done))), H', ⟨by first | omega | exact Nat.le_refl _⟩, ⟨by repeat (first | (with_reducible first | exact HB.out | apply below_alloc | apply pw_below_drewN | apply below_drew1) | exact HB.out)⟩⟩
                  · rw [if_neg c20] at H
                    have c20b0 : (t253 != t249) = false := by simpa using c20
                    (try (have c20b1 : decide (t253 = t249) = true := by simpa using c20))
                    (try (have c20b2 : (t253 == t249) = true := by simpa using c20))
                    clear c20
                    (try (have c20e : t249 = t253 := by first | simpa using c20b0 | (simpa using (bne_eq_false_iff_eq.mp c20b0).symm)); (subst c20e))
                    have H' := Aside0.mk H
                    clear H
                    go_wp2
                    refine Met.intro (hJ_ _ _ ?mg_ ?rel)
                    case mg_ => kernel_rfl
                    case rel => exact ⟨_, ((t257 != t249)), (by first | rfl | ((conv => lhs; whnf); first | rfl | (simp; done) | (simp [*]; done))), H', ⟨by first | omega | exact Nat.le_refl _⟩, ⟨by repeat (first | (with_reducible first | exact HB.out | apply below_alloc | apply pw_below_drewN | apply below_drew1) | exact HB.out)⟩⟩
                · rw [if_neg c19] at H
                  have c19b0 : (t256 == t258) = false := beq_eq_false_iff_ne.mpr c19
                  have c19b1 : (t256 != t258) = true := bne_iff_ne.mpr c19
                  have H' := Aside0.mk H
                  clear H
                  go_wp2
                  refine Met.intro (hJ_ _ _ ?mg_ ?rel)
                  case mg_ => kernel_rfl
                  case rel => exact ⟨_, (true), (by first | rfl | ((conv => lhs; whnf); first | rfl | (simp; done) | (simp [*]; done))), H', ⟨by first | omega | exact Nat.le_refl _⟩, ⟨by repeat (first | (with_reducible first | exact HB.out | apply below_alloc | apply pw_below_drewN | apply below_drew1) | exact HB.out)⟩⟩
            · rw [if_neg c17] at H
              have c17b0 : (t252 == t254) = false := beq_eq_false_iff_ne.mpr c17
              have c17b1 : (t252 != t254) = true := bne_iff_ne.mpr c17
              have H' := Aside0.mk H
              clear H
              go_wp2
              refine Met.intro (hJ_ _ _ ?mg_ ?rel)
              case mg_ => kernel_rfl
              case rel => exact ⟨_, (true), (by first | rfl | ((conv => lhs; whnf); first | rfl | (simp; done) | (simp [*]; done))), H', ⟨by first | omega | exact Nat.le_refl _⟩, ⟨by repeat (first | (with_reducible first | exact HB.out | apply below_alloc | apply pw_below_drewN | apply below_drew1) | exact HB.out)⟩⟩
        · rw [if_neg c15] at H
          have c15b0 : (t248 == t250) = false := beq_eq_false_iff_ne.mpr c15
          have c15b1 : (t248 != t250) = true := bne_iff_ne.mpr c15
          have H' := Aside0.mk H
          clear H
          go_wp2
          refine Met.intro (hJ_ _ _ ?mg_ ?rel)
          case mg_ => kernel_rfl
          case rel => exact ⟨_, (true), (by first | rfl | ((conv => lhs; whnf); first | rfl | (simp; done) | (simp [*]; done))), H', ⟨by first | omega | exact Nat.le_refl _⟩, ⟨by repeat (first | (with_reducible first | exact HB.out | apply below_alloc | apply pw_below_drewN | apply below_drew1) | exact HB.out)⟩⟩
    case rest =>
      intro f_ wc hcut
      dsimp only [maskF] at hcut ⊢
      generalize f_ 136 = u136 at hcut ⊢
      repeat revert ‹_›
      intro HP0_
      exact HP0_.out

set_option maxHeartbeats 8000000 in
set_option maxRecDepth 100000 in
def laws_FnNumbersReflect.c1 : PSigma fun P0_ : Prop => PSigma fun P1_ : Prop => Hole P0_ → Hole P1_ → laws_FnNumbersReflect.c0.1 := by
  refine' ⟨_, _, fun HP0_ HP1_ => _⟩
  rotate_left 2
  intro k A0 c0 l0 A1 c1 l1 r w HR0 HC0 HR1 HC1 A3 t247 A5 t248 t249 A6 t250 t251 A7 t252 t253 A8 t254 t255 A9 t256 t257 A10 t258 t259 A11 HC12 _ _ _ w13 HB _ _ _ _ _ nd _ _ _ _ f_ wc u136 hcut
  clear HC12
  try clear c1
  try clear c2
  try clear p2
  try clear c3
  try clear c4
  try clear c5
  try clear c6
  try clear c7
  try clear c8
  try clear c9
  try clear c10
  try clear c11
  try clear c14
  try clear c14b0
  try clear c14b1
  try clear c14b2
  try clear c15
  try clear c15b0
  try clear c15b1
  try clear c16
  try clear c16b0
  try clear c16b1
  try clear c16b2
  try clear c17
  try clear c17b0
  try clear c17b1
  try clear c18
  try clear c18b0
  try clear c18b1
  try clear c18b2
  try clear c19
  try clear c19b0
  try clear c19b1
  try clear c20
  try clear c20b0
  try clear c20b1
  try clear c20b2
  obtain ⟨kq, x136_11, rfl, HA, HJ11, HB⟩ := hcut
  cases kq with
  | zero => exact absurd HA.out (by simp [laws_FnNumbersReflect.j0])
  | succ kj11 =>
    have H := HA.out
    clear HA
    simp only [laws_FnNumbersReflect.j0] at H
    by_cases c21 : x136_11 = true
    · subst c21
      have H1 : (some false) = some r := by rw [if_pos rfl] at H; exact H
      clear H
      have H := H1
      clear H1
      obtain rfl := Option.some.inj H
      go_wp2
      go_ret
      exact ⟨by first | rfl | (simp [errW_none, errW_some] <;> rfl) | (simp [*, errW_none, errW_some] <;> rfl), by repeat (first | (with_reducible first | exact HB.out | apply below_alloc | apply pw_below_drewN | apply below_drew1) | exact HB.out)⟩
    · replace c21 := Bool.eq_false_iff.mpr c21
      subst c21
      have H1 : (if t249 = true then ((impl_NumberOfReflected.f kj11 t248).bind fun bt260 => ((impl_PlainSum.f t247 (wrap64 (Int.tdiv t247 2))).bind fun bt262 => (if bt260.2 = true then (if bt260.1 = t247 then (if bt262.2 = true then (laws_FnNumbersReflect.j1 kj11 l1 t247 t248 t256 (bt262.1 != t248)) else (laws_FnNumbersReflect.j1 kj11 l1 t247 t248 t256 true)) else (laws_FnNumbersReflect.j1 kj11 l1 t247 t248 t256 true)) else (if bt262.2 = true then (laws_FnNumbersReflect.j1 kj11 l1 t247 t248 t256 (bt262.1 != t248)) else (laws_FnNumbersReflect.j1 kj11 l1 t247 t248 t256 true))))) else (laws_FnNumbersReflect.j3 kj11 l1)) = some r := by rw [if_neg (show ¬ (false = true) by decide)] at H; exact H
      clear H
      have H := H1
      clear H1
      have HC22 := Aside0.mk H
      clear H
      go_upto_if 137 with (fail)
      refine wp_cutF [o_,o_,o_,o_,i_,o_,o_,o_,o_,o_,o_,o_,o_,o_,o_,o_,o_,o_,i_,i_,i_,i_,i_,i_,i_,i_,i_,i_,o_,o_,o_,o_,o_,o_,o_,o_,o_,o_,o_,o_,o_,o_,o_,o_,o_,o_,o_,o_,o_,o_,o_,o_,o_,o_,o_,o_,o_,o_,o_,o_,o_,o_,o_,o_,i_,i_,i_,i_,i_,i_,i_,i_,i_,i_,i_,i_,i_,i_,i_,i_,i_,i_,i_,i_,i_,i_,i_,i_,i_,i_,i_,i_,i_,i_,i_,i_,i_,i_,i_,i_,i_,i_,i_,i_,i_,i_,i_,i_,i_,i_,i_,i_,i_,i_,i_,i_,i_,i_,i_,i_,i_,i_,i_,i_,i_,i_,i_,i_,i_,i_,i_,i_,i_,i_,i_,i_,i_,i_,i_,i_,i_,i_,i_,i_,i_,i_,i_,i_,i_,i_,i_,i_,i_,i_,i_,i_,i_,i_,i_,i_,i_,i_,i_,i_,i_,i_,i_,i_,i_,i_,i_,i_,i_,i_,i_,i_,i_,i_,i_,i_,i_,i_,i_,i_,i_,i_,i_,i_,i_,i_,i_,i_,i_,i_,i_,i_,i_,i_,i_,i_,i_,i_,i_,i_,i_,i_,i_,i_,i_,i_,i_,i_,i_,i_,i_,i_,i_,i_,i_,i_,i_,i_,i_,i_,i_,i_,i_,i_,i_,i_,i_,i_,i_,i_,i_,i_,i_,i_,i_,i_,i_,i_,i_,i_,i_,i_,i_,i_,i_,i_,i_,i_,i_,i_,i_,i_,i_,i_,i_,i_,i_,i_,i_,i_,i_,i_,i_,i_,i_,i_,i_,i_,i_,i_,i_,i_,i_,i_,i_,i_,i_,i_,i_,i_,i_,i_,i_,i_,i_,i_,i_,i_,i_,i_,i_,i_,i_,i_,i_,i_,i_,i_,i_,i_,i_,i_,i_,i_,i_,i_,i_,i_,i_,i_,i_,i_,i_,i_,i_,i_,i_,i_,i_,i_,i_,i_,i_,i_,i_,i_,i_,i_,i_,i_,i_,i_,i_,i_,i_,i_,i_,i_,i_,i_,i_,i_,i_,i_,i_,i_,i_,i_,i_,i_,i_,i_,i_,i_,i_,i_,i_,i_,i_,i_,i_,i_,i_,i_,i_,i_,i_,i_,i_,i_,i_,i_,i_,i_,i_,i_,i_,i_,i_,i_,i_,i_,i_,i_,i_,i_,i_,i_,i_,i_,i_,i_,i_,i_,i_,i_,i_,i_,i_,i_,i_,i_] (fun f_ wc => ∃ (kq : Nat), Aside0 (laws_FnNumbersReflect.j3 kq l1 = some r) ∧ Aside0 (kq ≤ kj11) ∧ Aside0 (Below w.heap.size w wc)) ?rest ?first
      case first =>
        intro J_ K_ hJ_ hK_
        repeat revert ‹_›
        intro HP0_ HP1_
        exact HP0_.out
      case rest =>
        intro f_ wc hcut
        dsimp only [maskF] at hcut ⊢
        repeat revert ‹_›
        intro HP0_ HP1_
        exact HP1_.out

set_option maxHeartbeats 8000000 in
set_option maxRecDepth 100000 in
def laws_FnNumbersReflect.c2 : PSigma fun P0_ : Prop => Hole P0_ → laws_FnNumbersReflect.c1.1 := by
  refine' ⟨_, fun HP0_ => _⟩
  rotate_left 1
  intro k A0 c0 l0 A1 c1 l1 r w HR0 HC0 HR1 HC1 A3 t247 A5 t248 t249 A6 t250 t251 A7 t252 t253 A8 t254 t255 A9 t256 t257 A10 t258 t259 A11 _ _ _ w13 _ _ _ _ _ _ nd f_ wc HB kj11 HJ11 HC22 _ _ J_ K_ hJ_ hK_
  have H := HC22.out
  clear HC22
  by_cases c23 : t249 = true
  · subst c23
    have H1 : ((impl_NumberOfReflected.f kj11 t248).bind fun bt260 => ((impl_PlainSum.f t247 (wrap64 (Int.tdiv t247 2))).bind fun bt262 => (if bt260.2 = true then (if bt260.1 = t247 then (if bt262.2 = true then (laws_FnNumbersReflect.j1 kj11 l1 t247 t248 t256 (bt262.1 != t248)) else (laws_FnNumbersReflect.j1 kj11 l1 t247 t248 t256 true)) else (laws_FnNumbersReflect.j1 kj11 l1 t247 t248 t256 true)) else (if bt262.2 = true then (laws_FnNumbersReflect.j1 kj11 l1 t247 t248 t256 (bt262.1 != t248)) else (laws_FnNumbersReflect.j1 kj11 l1 t247 t248 t256 true))))) = some r := by rw [if_pos rfl] at H; exact H
    clear H
    have H := H1
    clear H1
    replace H := Option.bind_eq_some_iff.mp H
    obtain ⟨⟨t260, t261⟩, A240, H⟩ := H
    replace H : ((impl_PlainSum.f t247 (wrap64 (Int.tdiv t247 2))).bind fun bt262 => (if t261 = true then (if t260 = t247 then (if bt262.2 = true then (laws_FnNumbersReflect.j1 kj11 l1 t247 t248 t256 (bt262.1 != t248)) else (laws_FnNumbersReflect.j1 kj11 l1 t247 t248 t256 true)) else (laws_FnNumbersReflect.j1 kj11 l1 t247 t248 t256 true)) else (if bt262.2 = true then (laws_FnNumbersReflect.j1 kj11 l1 t247 t248 t256 (bt262.1 != t248)) else (laws_FnNumbersReflect.j1 kj11 l1 t247 t248 t256 true)))) = some r := H
    have A24 := Aside0.mk A240
    clear A240
    replace H := Option.bind_eq_some_iff.mp H
    obtain ⟨⟨t262, t263⟩, A250, H⟩ := H
    replace H : (if t261 = true then (if t260 = t247 then (if t263 = true then (laws_FnNumbersReflect.j1 kj11 l1 t247 t248 t256 (t262 != t248)) else (laws_FnNumbersReflect.j1 kj11 l1 t247 t248 t256 true)) else (laws_FnNumbersReflect.j1 kj11 l1 t247 t248 t256 true)) else (if t263 = true then (laws_FnNumbersReflect.j1 kj11 l1 t247 t248 t256 (t262 != t248)) else (laws_FnNumbersReflect.j1 kj11 l1 t247 t248 t256 true))) = some r := H
    have A25 := Aside0.mk A250
    clear A250
    have HC26 := Aside0.mk H
    clear H
    go_upto_region 15 with (first | ((with_reducible refine gate_callee (f := 8) rfl ?_); refine goesL_ (some 140) rfl rfl Tryd.func8 (by kernel_rfl) rfl #[.int .i64 t248] rfl (by (try simp only [List.map_toArray, List.map_cons, List.map_nil]); first | done | rfl | (simp only [List.length_drop, List.length_take]; rfl)) ?_; (with_reducible refine (impl_NumberOfReflected.calls kj11 t248 t260 t261 _ A24.out).mono ?_); rintro e w' ⟨rfl, ⟨nd, rfl⟩⟩; refine ⟨_, rfl, ?_⟩) | ((with_reducible refine gate_callee (f := 12) rfl ?_); refine goesL_ (some 147) rfl rfl Tryd.func12 (by kernel_rfl) rfl #[.int .i64 t247, .int .i64 (wrap64 (Int.tdiv t247 2))] rfl (by (try simp only [List.map_toArray, List.map_cons, List.map_nil]); first | done | rfl | (simp only [List.length_drop, List.length_take]; rfl)) ?_; (with_reducible refine (impl_PlainSum.calls t247 (wrap64 (Int.tdiv t247 2)) t262 t263 _ A25.out).mono ?_); rintro e w' ⟨rfl, ⟨nd, rfl⟩⟩; refine ⟨_, rfl, ?_⟩))
    (try simp only [Act.put, List.setIfInBounds_toArray, List.set_cons_zero, List.set_cons_succ])
    refine wp_cutF [o_,o_,o_,o_,o_,o_,o_,o_,o_,o_,o_,o_,o_,o_,o_,o_,o_,o_,o_,o_,o_,o_,o_,o_,o_,o_,o_,o_,o_,o_,o_,o_,o_,o_,o_,o_,o_,o_,o_,o_,o_,o_,o_,o_,o_,o_,o_,o_,o_,o_,o_,o_,o_,o_,o_,o_,o_,o_,o_,o_,o_,o_,o_,o_,i_,i_,i_,i_,i_,i_,i_,i_,i_,i_,i_,i_,i_,i_,i_,i_,i_,i_,i_,i_,i_,i_,i_,i_,i_,i_,i_,i_,i_,i_,i_,i_,i_,i_,i_,i_,i_,i_,i_,i_,i_,i_,i_,i_,i_,i_,i_,i_,i_,i_,i_,i_,i_,i_,i_,i_,i_,i_,i_,i_,i_,i_,i_,i_,i_,i_,i_,i_,i_,i_,i_,i_,i_,i_,i_,i_,i_,i_,i_,i_,i_,i_,i_,i_,i_,i_,i_,i_,i_,i_,i_,i_,i_,i_,i_,i_,i_,i_,i_,i_,i_,i_,i_,i_,i_,i_,i_,i_,i_,i_,i_,i_,i_,i_,i_,i_,i_,i_,i_,i_,i_,i_,i_,i_,i_,i_,i_,i_,i_,i_,i_,i_,i_,i_,i_,i_,i_,i_,i_,i_,i_,i_,i_,i_,i_,i_,i_,i_,i_,i_,i_,i_,i_,i_,i_,i_,i_,i_,i_,i_,i_,i_,i_,i_,i_,i_,i_,i_,i_,i_,i_,i_,i_,i_,i_,i_,i_,i_,i_,i_,i_,i_,i_,i_,i_,i_,i_,i_,i_,i_,i_,i_,i_,i_,i_,i_,i_,i_,i_,i_,i_,i_,i_,i_,i_,i_,i_,i_,i_,i_,i_,i_,i_,i_,i_,i_,i_,i_,i_,i_,i_,i_,i_,i_,i_,i_,i_,i_,i_,i_,i_,i_,i_,i_,i_,i_,i_,i_,i_,i_,i_,i_,i_,i_,i_,i_,i_,i_,i_,i_,i_,i_,i_,i_,i_,i_,i_,i_,i_,i_,i_,i_,i_,i_,i_,i_,i_,i_,i_,i_,i_,i_,i_,i_,i_,i_,i_,i_,i_,i_,i_,i_,i_,i_,i_,i_,i_,i_,i_,i_,i_,i_,i_,i_,i_,i_,i_,i_,i_,i_,i_,i_,i_,i_,i_,i_,i_,i_,i_,i_,i_,i_,i_,i_,i_,i_,i_,i_,i_,i_,i_,i_,i_,i_,i_,i_,i_,i_,i_,i_,i_,i_,i_,i_,i_,i_,i_,i_,i_,i_,i_,i_] (fun f_ wc => ∃ (kq : Nat) (x164_25 : Bool), (f_ 164) = .bool x164_25 ∧ Aside0 (laws_FnNumbersReflect.j1 kq l1 t247 t248 t256 x164_25 = some r) ∧ Aside0 (kq ≤ kj11) ∧ Aside0 (Below w.heap.size w wc)) ?rest ?first
    case first =>
      intro J_ K_ hJ_ hK_
      have H := HC26.out
      clear HC26
      by_cases c27 : t261 = true
      · subst c27
        have H1 : (if t260 = t247 then (if t263 = true then (laws_FnNumbersReflect.j1 kj11 l1 t247 t248 t256 (t262 != t248)) else (laws_FnNumbersReflect.j1 kj11 l1 t247 t248 t256 true)) else (laws_FnNumbersReflect.j1 kj11 l1 t247 t248 t256 true)) = some r := by rw [if_pos rfl] at H; exact H
        clear H
        have H := H1
        clear H1
        by_cases c28 : t260 = t247
        · rw [if_pos c28] at H
          have c28b0 : (t260 == t247) = true := beq_iff_eq.mpr c28
          have c28b1 : (t260 != t247) = false := bne_eq_false_iff_eq.mpr c28
          clear c28
          (first | rw [c28b0] | (simp only [i64_w, i32_w]; rw [c28b0]) | skip)
          by_cases c29 : t263 = true
          · subst c29
            have H1 : (laws_FnNumbersReflect.j1 kj11 l1 t247 t248 t256 (t262 != t248)) = some r := by rw [if_pos rfl] at H; exact H
            clear H
            have H := H1
            clear H1
            have H' := Aside0.mk H
            clear H
            go_wp2
            refine Met.intro (hJ_ _ _ ?mg_ ?rel)
            case mg_ => kernel_rfl
            case rel => exact ⟨_, ((t262 != t248)), (by first | rfl | ((conv => lhs; whnf); first | rfl | (simp; done) | (simp [*]; done))), H', ⟨by have := HJ11.out; first | omega | exact Nat.le_refl _⟩, ⟨by repeat (first | (with_reducible first | exact HB.out | apply below_alloc | apply pw_below_drewN | apply below_drew1) | exact HB.out)⟩⟩
          · replace c29 := Bool.eq_false_iff.mpr c29
            subst c29
            have H1 : (laws_FnNumbersReflect.j1 kj11 l1 t247 t248 t256 true) = some r := by rw [if_neg (show ¬ (false = true) by decide)] at H; exact H
            clear H
            have H := H1
            clear H1
            have H' := Aside0.mk H
            clear H
            go_wp2
            refine Met.intro (hJ_ _ _ ?mg_ ?rel)
            case mg_ => kernel_rfl
            case rel => exact ⟨_, (true), (by first | rfl | ((conv => lhs; whnf); first | rfl | (simp; done) | (simp [*]; done))), H', ⟨by have := HJ11.out; first | omega | exact Nat.le_refl _⟩, ⟨by repeat (first | (with_reducible first | exact HB.out | apply below_alloc | apply pw_below_drewN | apply below_drew1) | exact HB.out)⟩⟩
        · rw [if_neg c28] at H
          have c28b0 : (t260 == t247) = false := beq_eq_false_iff_ne.mpr c28
          have c28b1 : (t260 != t247) = true := bne_iff_ne.mpr c28
          (first | rw [c28b0] | (simp only [i64_w, i32_w]; rw [c28b0]) | skip)
          have H' := Aside0.mk H
          clear H
          go_wp2
          refine Met.intro (hJ_ _ _ ?mg_ ?rel)
          case mg_ => kernel_rfl
          case rel => exact ⟨_, (true), (by first | rfl | ((conv => lhs; whnf); first | rfl | (simp; done) | (simp [*]; done))), H', ⟨by have := HJ11.out; first | omega | exact Nat.le_refl _⟩, ⟨by repeat (first | (with_reducible first | exact HB.out | apply below_alloc | apply pw_below_drewN | apply below_drew1) | exact HB.out)⟩⟩
      · replace c27 := Bool.eq_false_iff.mpr c27
        subst c27
        have H1 : (if t263 = true then (laws_FnNumbersReflect.j1 kj11 l1 t247 t248 t256 (t262 != t248)) else (laws_FnNumbersReflect.j1 kj11 l1 t247 t248 t256 true)) = some r := by rw [if_neg (show ¬ (false = true) by decide)] at H; exact H
        clear H
        have H := H1
        clear H1
        by_cases c30 : t263 = true
        · subst c30
          have H1 : (laws_FnNumbersReflect.j1 kj11 l1 t247 t248 t256 (t262 != t248)) = some r := by rw [if_pos rfl] at H; exact H
          clear H
          have H := H1
          clear H1
          have H' := Aside0.mk H
          clear H
          go_wp2
          refine Met.intro (hJ_ _ _ ?mg_ ?rel)
          case mg_ => kernel_rfl
          case rel => exact ⟨_, ((t262 != t248)), (by first | rfl | ((conv => lhs; whnf); first | rfl | (simp; done) | (simp [*]; done))), H', ⟨by have := HJ11.out; first | omega | exact Nat.le_refl _⟩, ⟨by repeat (first | (with_reducible first | exact HB.out | apply below_alloc | apply pw_below_drewN | apply below_drew1) | exact HB.out)⟩⟩
        · replace c30 := Bool.eq_false_iff.mpr c30
          subst c30
          have H1 : (laws_FnNumbersReflect.j1 kj11 l1 t247 t248 t256 true) = some r := by rw [if_neg (show ¬ (false = true) by decide)] at H; exact H
          clear H
          have H := H1
          clear H1
          have H' := Aside0.mk H
          clear H
          go_wp2
          refine Met.intro (hJ_ _ _ ?mg_ ?rel)
          case mg_ => kernel_rfl
          case rel => exact ⟨_, (true), (by first | rfl | ((conv => lhs; whnf); first | rfl | (simp; done) | (simp [*]; done))), H', ⟨by have := HJ11.out; first | omega | exact Nat.le_refl _⟩, ⟨by repeat (first | (with_reducible first | exact HB.out | apply below_alloc | apply pw_below_drewN | apply below_drew1) | exact HB.out)⟩⟩
    case rest =>
      intro f_ wc hcut
      dsimp only [maskF] at hcut ⊢
      generalize f_ 164 = u164 at hcut ⊢
      repeat revert ‹_›
      intro HP0_
      exact HP0_.out
  · replace c23 := Bool.eq_false_iff.mpr c23
    subst c23
    have H1 : (laws_FnNumbersReflect.j3 kj11 l1) = some r := by rw [if_neg (show ¬ (false = true) by decide)] at H; exact H
    clear H
    have H := H1
    clear H1
    have H' := Aside0.mk H
    clear H
    go_wp2
    refine Met.intro (hJ_ _ _ ?mg_ ?rel)
    case mg_ => kernel_rfl
    case rel => exact ⟨_, H', ⟨by have := HJ11.out; first | omega | exact Nat.le_refl _⟩, ⟨by repeat (first | (with_reducible first | exact HB.out | apply below_alloc | apply pw_below_drewN | apply below_drew1) | exact HB.out)⟩⟩

set_option maxHeartbeats 8000000 in
set_option maxRecDepth 100000 in
def laws_FnNumbersReflect.c3 : PSigma fun P0_ : Prop => Hole P0_ → laws_FnNumbersReflect.c2.1 := by
  refine' ⟨_, fun HP0_ => _⟩
  rotate_left 1
  intro k A0 c0 l0 A1 c1 l1 r w HR0 HC0 HR1 HC1 A3 t247 A5 t248 t250 t251 A7 t252 t253 A8 t254 t255 A9 t256 t257 A10 t258 t259 A11 _ _ _ w13 _ _ _ _ _ _ _ _ _ HB kj11 HJ11 _ _ J_ K_ hK_ A6 hJ_ t260 t261 A24 t262 t263 A25 HC26 _ nd _ _ _ _ f_ wc u164 hcut
  clear HC26
  try clear c1
  try clear c2
  try clear p2
  try clear c3
  try clear c4
  try clear c5
  try clear c6
  try clear p6
  try clear c7
  try clear c8
  try clear c9
  try clear c10
  try clear c11
  try clear c12
  try clear c14
  try clear c14b0
  try clear c14b1
  try clear c14b2
  try clear c15
  try clear c15b0
  try clear c15b1
  try clear c16
  try clear c16b0
  try clear c16b1
  try clear c16b2
  try clear c17
  try clear c17b0
  try clear c17b1
  try clear c18
  try clear c18b0
  try clear c18b1
  try clear c18b2
  try clear c19
  try clear c19b0
  try clear c19b1
  try clear c20
  try clear c20b0
  try clear c20b1
  try clear c20b2
  try clear c21
  try clear c23
  try clear c27
  try clear c28
  try clear c28b0
  try clear c28b1
  try clear c29
  try clear c30
  try clear p2
  obtain ⟨kq, x164_25, rfl, HA, HJ25, HB⟩ := hcut
  cases kq with
  | zero => exact absurd HA.out (by simp [laws_FnNumbersReflect.j1])
  | succ kj25 =>
    have H := HA.out
    clear HA
    simp only [laws_FnNumbersReflect.j1] at H
    by_cases c31 : x164_25 = true
    · subst c31
      have H1 : (some false) = some r := by rw [if_pos rfl] at H; exact H
      clear H
      have H := H1
      clear H1
      obtain rfl := Option.some.inj H
      go_wp2
      go_ret
      exact ⟨by first | rfl | (simp [errW_none, errW_some] <;> rfl) | (simp [*, errW_none, errW_some] <;> rfl), by repeat (first | (with_reducible first | exact HB.out | apply below_alloc | apply pw_below_drewN | apply below_drew1) | exact HB.out)⟩
    · replace c31 := Bool.eq_false_iff.mpr c31
      subst c31
      have H1 : ((impl_ReflectedOf.f (wrap64 (t247 + 1))).bind fun bt264 => (if bt264.2 = true then (if 0 ≤ t256 then (laws_FnNumbersReflect.j2 kj25 l1 t247 ((Go.bits .xor .i64 bt264.1 t248) != (shl .i64 1 t256))) else (none)) else (laws_FnNumbersReflect.j2 kj25 l1 t247 false))) = some r := by rw [if_neg (show ¬ (false = true) by decide)] at H; exact H
      clear H
      have H := H1
      clear H1
      replace H := Option.bind_eq_some_iff.mp H
      obtain ⟨⟨t264, t265⟩, A320, H⟩ := H
      replace H : (if t265 = true then (if 0 ≤ t256 then (laws_FnNumbersReflect.j2 kj25 l1 t247 ((Go.bits .xor .i64 t264 t248) != (shl .i64 1 t256))) else (none)) else (laws_FnNumbersReflect.j2 kj25 l1 t247 false)) = some r := H
      have A32 := Aside0.mk A320
      clear A320
      have HC33 := Aside0.mk H
      clear H
      go_upto_region 18 with (first | ((with_reducible refine gate_callee (f := 6) rfl ?_); refine goesL_ (some 168) rfl rfl Tryd.func6 (by kernel_rfl) rfl #[.int .i64 (wrap64 (t247 + 1))] rfl (by (try simp only [List.map_toArray, List.map_cons, List.map_nil]); first | done | rfl | (simp only [List.length_drop, List.length_take]; rfl)) ?_; (with_reducible refine (impl_ReflectedOf.calls (wrap64 (t247 + 1)) t264 t265 _ A32.out).mono ?_); rintro e w' ⟨rfl, ⟨nd, rfl⟩⟩; refine ⟨_, rfl, ?_⟩))
      (try simp only [Act.put, List.setIfInBounds_toArray, List.set_cons_zero, List.set_cons_succ])
      refine wp_cutF [o_,o_,o_,o_,o_,o_,o_,o_,o_,o_,o_,o_,o_,o_,o_,o_,o_,o_,o_,o_,o_,o_,o_,o_,o_,o_,o_,o_,o_,o_,o_,o_,o_,o_,o_,o_,o_,o_,o_,o_,o_,o_,o_,o_,o_,o_,o_,o_,o_,o_,o_,o_,o_,o_,o_,o_,o_,o_,o_,o_,o_,o_,o_,o_,i_,i_,i_,i_,i_,i_,i_,i_,i_,i_,i_,i_,i_,i_,i_,i_,i_,i_,i_,i_,i_,i_,i_,i_,i_,i_,i_,i_,i_,i_,i_,i_,i_,i_,i_,i_,i_,i_,i_,i_,i_,i_,i_,i_,i_,i_,i_,i_,i_,i_,i_,i_,i_,i_,i_,i_,i_,i_,i_,i_,i_,i_,i_,i_,i_,i_,i_,i_,i_,i_,i_,i_,i_,i_,i_,i_,i_,i_,i_,i_,i_,i_,i_,i_,i_,i_,i_,i_,i_,i_,i_,i_,i_,i_,i_,i_,i_,i_,i_,i_,i_,i_,i_,i_,i_,i_,i_,i_,i_,i_,i_,i_,i_,i_,i_,i_,i_,i_,i_,i_,i_,i_,i_,i_,i_,i_,i_,i_,i_,i_,i_,i_,i_,i_,i_,i_,i_,i_,i_,i_,i_,i_,i_,i_,i_,i_,i_,i_,i_,i_,i_,i_,i_,i_,i_,i_,i_,i_,i_,i_,i_,i_,i_,i_,i_,i_,i_,i_,i_,i_,i_,i_,i_,i_,i_,i_,i_,i_,i_,i_,i_,i_,i_,i_,i_,i_,i_,i_,i_,i_,i_,i_,i_,i_,i_,i_,i_,i_,i_,i_,i_,i_,i_,i_,i_,i_,i_,i_,i_,i_,i_,i_,i_,i_,i_,i_,i_,i_,i_,i_,i_,i_,i_,i_,i_,i_,i_,i_,i_,i_,i_,i_,i_,i_,i_,i_,i_,i_,i_,i_,i_,i_,i_,i_,i_,i_,i_,i_,i_,i_,i_,i_,i_,i_,i_,i_,i_,i_,i_,i_,i_,i_,i_,i_,i_,i_,i_,i_,i_,i_,i_,i_,i_,i_,i_,i_,i_,i_,i_,i_,i_,i_,i_,i_,i_,i_,i_,i_,i_,i_,i_,i_,i_,i_,i_,i_,i_,i_,i_,i_,i_,i_,i_,i_,i_,i_,i_,i_,i_,i_,i_,i_,i_,i_,i_,i_,i_,i_,i_,i_,i_,i_,i_,i_,i_,i_,i_,i_,i_,i_,i_,i_,i_,i_,i_,i_,i_,i_,i_,i_,i_,i_] (fun f_ wc => ∃ (kq : Nat) (x179_32 : Bool), (f_ 179) = .bool x179_32 ∧ Aside0 (laws_FnNumbersReflect.j2 kq l1 t247 x179_32 = some r) ∧ Aside0 (kq ≤ kj25) ∧ Aside0 (Below w.heap.size w wc)) ?rest ?first
      case first =>
        intro J_ K_ hJ_ hK_
        have H := HC33.out
        clear HC33
        by_cases c34 : t265 = true
        · subst c34
          have H1 : (if 0 ≤ t256 then (laws_FnNumbersReflect.j2 kj25 l1 t247 ((Go.bits .xor .i64 t264 t248) != (shl .i64 1 t256))) else (none)) = some r := by rw [if_pos rfl] at H; exact H
          clear H
          have H := H1
          clear H1
          by_cases c35 : 0 ≤ t256
          · rw [if_pos c35] at H
            have c35b0 := eq_true c35
            have c35b1 : decide (0 ≤ t256) = true := decide_eq_true c35
            clear c35
            obtain ⟨ji36, hji36⟩ : ∃ j_ : Int, (shl .i64 1 t256) = j_ := ⟨_, rfl⟩
            replace H : (laws_FnNumbersReflect.j2 kj25 l1 t247 ((Go.bits .xor .i64 t264 t248) != (ji36))) = some r := by first | (rw [hji36] at H; exact H) | (simp only [hji36] at H ⊢; exact H)
            have hji36_ : (IntKind.i64.wrap (1 * 2 ^ min t256.toNat 64)) = ji36 := hji36
            have hji36z : t256 ≤ 64 → (IntKind.i64.wrap (1 * 2 ^ t256.toNat)) = ji36 := shl_small hji36
            have hji36u : (IntKind.i64.wrap (2 ^ min t256.toNat 64)) = ji36 := by have h_ := hji36_; rw [Int.one_mul] at h_; exact h_
            have hji36v : t256 ≤ 64 → (IntKind.i64.wrap (2 ^ t256.toNat)) = ji36 := fun hle_ => by have h_ := hji36z hle_; rw [Int.one_mul] at h_; exact h_
            have hji36y : (wrap64 (1 * 2 ^ min t256.toNat 64)) = ji36 := (i64_w _).symm.trans hji36_
            have hji36x : t256 ≤ 64 → (wrap64 (1 * 2 ^ t256.toNat)) = ji36 := fun h_ => (i64_w _).symm.trans (hji36z h_)
            have H' := Aside0.mk H
            clear H
            go_wp2
            refine Met.intro (hJ_ _ _ ?mg_ ?rel)
            case mg_ => kernel_rfl
            case rel => exact ⟨_, (((Go.bits .xor .i64 t264 t248) != (ji36))), (by first | rfl | (simp; done) | (simp only [← hji36] <;> (first | rfl | simp)) | (simp [*]; done)), H', ⟨by have := HJ11.out; have := HJ25.out; first | omega | exact Nat.le_refl _⟩, ⟨by repeat (first | (with_reducible first | exact HB.out | apply below_alloc | apply pw_below_drewN | apply below_drew1) | exact HB.out)⟩⟩
          · rw [if_neg c35] at H
            exact absurd H (by simp)
        · replace c34 := Bool.eq_false_iff.mpr c34
          subst c34
          have H1 : (laws_FnNumbersReflect.j2 kj25 l1 t247 false) = some r := by rw [if_neg (show ¬ (false = true) by decide)] at H; exact H
          clear H
          have H := H1
          clear H1
          have H' := Aside0.mk H
          clear H
          go_wp2
          refine Met.intro (hJ_ _ _ ?mg_ ?rel)
          case mg_ => kernel_rfl
          case rel => exact ⟨_, (false), (by first | rfl | ((conv => lhs; whnf); first | rfl | (simp; done) | (simp [*]; done))), H', ⟨by have := HJ11.out; have := HJ25.out; first | omega | exact Nat.le_refl _⟩, ⟨by repeat (first | (with_reducible first | exact HB.out | apply below_alloc | apply pw_below_drewN | apply below_drew1) | exact HB.out)⟩⟩
      case rest =>
        intro f_ wc hcut
        dsimp only [maskF] at hcut ⊢
        generalize f_ 179 = u179 at hcut ⊢
        repeat revert ‹_›
        intro HP0_
        exact HP0_.out

set_option maxHeartbeats 8000000 in
set_option maxRecDepth 100000 in
theorem laws_FnNumbersReflect.c4 : laws_FnNumbersReflect.c3.1 := by
  intro k A0 c0 l0 A1 c1 l1 r w HR0 HC0 HR1 HC1 A3 t247 A5 t248 t250 t251 A7 t252 t253 A8 t254 t255 A9 t256 t257 A10 t258 t259 A11 _ _ _ w13 _ _ _ _ _ _ _ _ _ _ kj11 HJ11 _ _ J_ K_ hK_ A6 hJ_ t260 t261 A24 t262 t263 A25 _ _ _ _ HB kj25 HJ25 t264 t265 A32 HC33 nd _ _ _ _ f_ wc u179 hcut
  clear HC33
  try clear c1
  try clear c2
  try clear p2
  try clear c3
  try clear c4
  try clear c5
  try clear c6
  try clear p6
  try clear c7
  try clear c8
  try clear c9
  try clear c10
  try clear c11
  try clear c12
  try clear c14
  try clear c14b0
  try clear c14b1
  try clear c14b2
  try clear c15
  try clear c15b0
  try clear c15b1
  try clear c16
  try clear c16b0
  try clear c16b1
  try clear c16b2
  try clear c17
  try clear c17b0
  try clear c17b1
  try clear c18
  try clear c18b0
  try clear c18b1
  try clear c18b2
  try clear c19
  try clear c19b0
  try clear c19b1
  try clear c20
  try clear c20b0
  try clear c20b1
  try clear c20b2
  try clear c21
  try clear c23
  try clear c27
  try clear c28
  try clear c28b0
  try clear c28b1
  try clear c29
  try clear c30
  try clear c31
  try clear c34
  try clear c35
  try clear c35b0
  try clear c35b1
  try clear p2
  try clear p6
  obtain ⟨kq, x179_32, rfl, HA, HJ32, HB⟩ := hcut
  cases kq with
  | zero => exact absurd HA.out (by simp [laws_FnNumbersReflect.j2])
  | succ kj32 =>
    have H := HA.out
    clear HA
    simp only [laws_FnNumbersReflect.j2] at H
    by_cases c37 : x179_32 = true
    · subst c37
      have H1 : (some false) = some r := by rw [if_pos rfl] at H; exact H
      clear H
      have H := H1
      clear H1
      obtain rfl := Option.some.inj H
      go_wp2
      go_ret
      exact ⟨by first | rfl | (simp [errW_none, errW_some] <;> rfl) | (simp [*, errW_none, errW_some] <;> rfl), by repeat (first | (with_reducible first | exact HB.out | apply below_alloc | apply pw_below_drewN | apply below_drew1) | exact HB.out)⟩
    · replace c37 := Bool.eq_false_iff.mpr c37
      subst c37
      have H1 : ((impl_ReflectedText.f kj32 t247 40).bind fun bt266 => ((impl_RankOfText.f kj32 bt266.1).bind fun bt268 => (if bt266.2 = true then (if bt268.2 = true then (if bt268.1 = t247 then (if (bt266.1.size : Int) = 40 then (laws_FnNumbersReflect.j3 kj32 l1) else (some false)) else (some false)) else (some false)) else (laws_FnNumbersReflect.j3 kj32 l1)))) = some r := by rw [if_neg (show ¬ (false = true) by decide)] at H; exact H
      clear H
      have H := H1
      clear H1
      replace H := Option.bind_eq_some_iff.mp H
      obtain ⟨⟨t266, t267⟩, A380, H⟩ := H
      replace H : ((impl_RankOfText.f kj32 t266).bind fun bt268 => (if t267 = true then (if bt268.2 = true then (if bt268.1 = t247 then (if (t266.size : Int) = 40 then (laws_FnNumbersReflect.j3 kj32 l1) else (some false)) else (some false)) else (some false)) else (laws_FnNumbersReflect.j3 kj32 l1))) = some r := H
      have A38 := Aside0.mk A380
      clear A380
      replace H := Option.bind_eq_some_iff.mp H
      obtain ⟨⟨t268, t269⟩, A390, H⟩ := H
      replace H : (if t267 = true then (if t269 = true then (if t268 = t247 then (if (t266.size : Int) = 40 then (laws_FnNumbersReflect.j3 kj32 l1) else (some false)) else (some false)) else (some false)) else (laws_FnNumbersReflect.j3 kj32 l1)) = some r := H
      have A39 := Aside0.mk A390
      clear A390
      by_cases c40 : t267 = true
      · subst c40
        have H1 : (if t269 = true then (if t268 = t247 then (if (t266.size : Int) = 40 then (laws_FnNumbersReflect.j3 kj32 l1) else (some false)) else (some false)) else (some false)) = some r := by rw [if_pos rfl] at H; exact H
        clear H
        have H := H1
        clear H1
        by_cases c41 : t269 = true
        · subst c41
          have H1 : (if t268 = t247 then (if (t266.size : Int) = 40 then (laws_FnNumbersReflect.j3 kj32 l1) else (some false)) else (some false)) = some r := by rw [if_pos rfl] at H; exact H
          clear H
          have H := H1
          clear H1
          by_cases c42 : t268 = t247
          · rw [if_pos c42] at H
            have c42b0 : (t268 == t247) = true := beq_iff_eq.mpr c42
            have c42b1 : (t268 != t247) = false := bne_eq_false_iff_eq.mpr c42
            clear c42
            by_cases c43 : (t266.size : Int) = 40
            · rw [if_pos c43] at H
              have c43b0 : ((t266.size : Int) == 40) = true := beq_iff_eq.mpr c43
              have c43b1 : ((t266.size : Int) != 40) = false := bne_eq_false_iff_eq.mpr c43
              clear c43
              have H' := Aside0.mk H
              clear H
              go_wp2_with (first | ((with_reducible refine gate_callee (f := 13) rfl ?_); refine goesL_ (some 182) rfl rfl Tryd.func13 (by kernel_rfl) rfl #[.int .i64 t247, .int .i64 40] rfl (by (try simp only [List.map_toArray, List.map_cons, List.map_nil]); first | done | rfl | (simp only [List.length_drop, List.length_take]; rfl)) ?_; (with_reducible refine (impl_ReflectedText.calls kj32 t247 40 t266 true _ A38.out).mono ?_); rintro e w44 ⟨rfl, hb⟩; refine ⟨_, rfl, ?_⟩; have n0_ := Aside0.mk (below_step (by repeat (first | (with_reducible first | exact HB.out | apply below_alloc | apply pw_below_drewN | apply below_drew1) | exact HB.out)) hb); clear HB; have HB := n0_; clear n0_; (try clear hb); (try clear hb2); (try clear hk); (try clear hi)) | ((with_reducible refine gate_callee (f := 14) rfl ?_); refine goesL_ (some 187) rfl rfl Tryd.func14 (by kernel_rfl) rfl #[.string t266] rfl (by (try simp only [List.map_toArray, List.map_cons, List.map_nil]); first | done | rfl | (simp only [List.length_drop, List.length_take]; rfl)) ?_; (with_reducible refine (impl_RankOfText.calls kj32 t266 t268 true _ A39.out).mono ?_); rintro e w45 ⟨rfl, hb⟩; refine ⟨_, rfl, ?_⟩; have n0_ := Aside0.mk (below_step (by repeat (first | (with_reducible first | exact HB.out | apply below_alloc | apply pw_below_drewN | apply below_drew1) | exact HB.out)) hb); clear HB; have HB := n0_; clear n0_; (try clear hb); (try clear hb2); (try clear hk); (try clear hi)))
              refine Met.intro (hJ_ _ _ ?mg_ ?rel)
              case mg_ => kernel_rfl
              case rel => exact ⟨_, H', ⟨by have := HJ11.out; have := HJ25.out; have := HJ32.out; first | omega | exact Nat.le_refl _⟩, ⟨by repeat (first | (with_reducible first | exact HB.out | apply below_alloc | apply pw_below_drewN | apply below_drew1) | exact HB.out)⟩⟩
            · rw [if_neg c43] at H
              have c43b0 : ((t266.size : Int) == 40) = false := beq_eq_false_iff_ne.mpr c43
              have c43b1 : ((t266.size : Int) != 40) = true := bne_iff_ne.mpr c43
              obtain rfl := Option.some.inj H
              go_wp2_with (first | ((with_reducible refine gate_callee (f := 13) rfl ?_); refine goesL_ (some 182) rfl rfl Tryd.func13 (by kernel_rfl) rfl #[.int .i64 t247, .int .i64 40] rfl (by (try simp only [List.map_toArray, List.map_cons, List.map_nil]); first | done | rfl | (simp only [List.length_drop, List.length_take]; rfl)) ?_; (with_reducible refine (impl_ReflectedText.calls kj32 t247 40 t266 true _ A38.out).mono ?_); rintro e w46 ⟨rfl, hb⟩; refine ⟨_, rfl, ?_⟩; have n0_ := Aside0.mk (below_step (by repeat (first | (with_reducible first | exact HB.out | apply below_alloc | apply pw_below_drewN | apply below_drew1) | exact HB.out)) hb); clear HB; have HB := n0_; clear n0_; (try clear hb); (try clear hb2); (try clear hk); (try clear hi)) | ((with_reducible refine gate_callee (f := 14) rfl ?_); refine goesL_ (some 187) rfl rfl Tryd.func14 (by kernel_rfl) rfl #[.string t266] rfl (by (try simp only [List.map_toArray, List.map_cons, List.map_nil]); first | done | rfl | (simp only [List.length_drop, List.length_take]; rfl)) ?_; (with_reducible refine (impl_RankOfText.calls kj32 t266 t268 true _ A39.out).mono ?_); rintro e w47 ⟨rfl, hb⟩; refine ⟨_, rfl, ?_⟩; have n0_ := Aside0.mk (below_step (by repeat (first | (with_reducible first | exact HB.out | apply below_alloc | apply pw_below_drewN | apply below_drew1) | exact HB.out)) hb); clear HB; have HB := n0_; clear n0_; (try clear hb); (try clear hb2); (try clear hk); (try clear hi)))
              go_ret
              exact ⟨by first | rfl | (simp [errW_none, errW_some] <;> rfl) | (simp [*, errW_none, errW_some] <;> rfl), by repeat (first | (with_reducible first | exact HB.out | apply below_alloc | apply pw_below_drewN | apply below_drew1) | exact HB.out)⟩
          · rw [if_neg c42] at H
            have c42b0 : (t268 == t247) = false := beq_eq_false_iff_ne.mpr c42
            have c42b1 : (t268 != t247) = true := bne_iff_ne.mpr c42
            obtain rfl := Option.some.inj H
            go_wp2_with (first | ((with_reducible refine gate_callee (f := 13) rfl ?_); refine goesL_ (some 182) rfl rfl Tryd.func13 (by kernel_rfl) rfl #[.int .i64 t247, .int .i64 40] rfl (by (try simp only [List.map_toArray, List.map_cons, List.map_nil]); first | done | rfl | (simp only [List.length_drop, List.length_take]; rfl)) ?_; (with_reducible refine (impl_ReflectedText.calls kj32 t247 40 t266 true _ A38.out).mono ?_); rintro e w48 ⟨rfl, hb⟩; refine ⟨_, rfl, ?_⟩; have n0_ := Aside0.mk (below_step (by repeat (first | (with_reducible first | exact HB.out | apply below_alloc | apply pw_below_drewN | apply below_drew1) | exact HB.out)) hb); clear HB; have HB := n0_; clear n0_; (try clear hb); (try clear hb2); (try clear hk); (try clear hi)) | ((with_reducible refine gate_callee (f := 14) rfl ?_); refine goesL_ (some 187) rfl rfl Tryd.func14 (by kernel_rfl) rfl #[.string t266] rfl (by (try simp only [List.map_toArray, List.map_cons, List.map_nil]); first | done | rfl | (simp only [List.length_drop, List.length_take]; rfl)) ?_; (with_reducible refine (impl_RankOfText.calls kj32 t266 t268 true _ A39.out).mono ?_); rintro e w49 ⟨rfl, hb⟩; refine ⟨_, rfl, ?_⟩; have n0_ := Aside0.mk (below_step (by repeat (first | (with_reducible first | exact HB.out | apply below_alloc | apply pw_below_drewN | apply below_drew1) | exact HB.out)) hb); clear HB; have HB := n0_; clear n0_; (try clear hb); (try clear hb2); (try clear hk); (try clear hi)))
            go_ret
            exact ⟨by first | rfl | (simp [errW_none, errW_some] <;> rfl) | (simp [*, errW_none, errW_some] <;> rfl), by repeat (first | (with_reducible first | exact HB.out | apply below_alloc | apply pw_below_drewN | apply below_drew1) | exact HB.out)⟩
        · replace c41 := Bool.eq_false_iff.mpr c41
          subst c41
          have H1 : (some false) = some r := by rw [if_neg (show ¬ (false = true) by decide)] at H; exact H
          clear H
          have H := H1
          clear H1
          obtain rfl := Option.some.inj H
          go_wp2_with (first | ((with_reducible refine gate_callee (f := 13) rfl ?_); refine goesL_ (some 182) rfl rfl Tryd.func13 (by kernel_rfl) rfl #[.int .i64 t247, .int .i64 40] rfl (by (try simp only [List.map_toArray, List.map_cons, List.map_nil]); first | done | rfl | (simp only [List.length_drop, List.length_take]; rfl)) ?_; (with_reducible refine (impl_ReflectedText.calls kj32 t247 40 t266 true _ A38.out).mono ?_); rintro e w50 ⟨rfl, hb⟩; refine ⟨_, rfl, ?_⟩; have n0_ := Aside0.mk (below_step (by repeat (first | (with_reducible first | exact HB.out | apply below_alloc | apply pw_below_drewN | apply below_drew1) | exact HB.out)) hb); clear HB; have HB := n0_; clear n0_; (try clear hb); (try clear hb2); (try clear hk); (try clear hi)) | ((with_reducible refine gate_callee (f := 14) rfl ?_); refine goesL_ (some 187) rfl rfl Tryd.func14 (by kernel_rfl) rfl #[.string t266] rfl (by (try simp only [List.map_toArray, List.map_cons, List.map_nil]); first | done | rfl | (simp only [List.length_drop, List.length_take]; rfl)) ?_; (with_reducible refine (impl_RankOfText.calls kj32 t266 t268 false _ A39.out).mono ?_); rintro e w51 ⟨rfl, hb⟩; refine ⟨_, rfl, ?_⟩; have n0_ := Aside0.mk (below_step (by repeat (first | (with_reducible first | exact HB.out | apply below_alloc | apply pw_below_drewN | apply below_drew1) | exact HB.out)) hb); clear HB; have HB := n0_; clear n0_; (try clear hb); (try clear hb2); (try clear hk); (try clear hi)))
          go_ret
          exact ⟨by first | rfl | (simp [errW_none, errW_some] <;> rfl) | (simp [*, errW_none, errW_some] <;> rfl), by repeat (first | (with_reducible first | exact HB.out | apply below_alloc | apply pw_below_drewN | apply below_drew1) | exact HB.out)⟩
      · replace c40 := Bool.eq_false_iff.mpr c40
        subst c40
        have H1 : (laws_FnNumbersReflect.j3 kj32 l1) = some r := by rw [if_neg (show ¬ (false = true) by decide)] at H; exact H
        clear H
        have H := H1
        clear H1
        have H' := Aside0.mk H
        clear H
        go_wp2_with (first | ((with_reducible refine gate_callee (f := 13) rfl ?_); refine goesL_ (some 182) rfl rfl Tryd.func13 (by kernel_rfl) rfl #[.int .i64 t247, .int .i64 40] rfl (by (try simp only [List.map_toArray, List.map_cons, List.map_nil]); first | done | rfl | (simp only [List.length_drop, List.length_take]; rfl)) ?_; (with_reducible refine (impl_ReflectedText.calls kj32 t247 40 t266 false _ A38.out).mono ?_); rintro e w52 ⟨rfl, hb⟩; refine ⟨_, rfl, ?_⟩; have n0_ := Aside0.mk (below_step (by repeat (first | (with_reducible first | exact HB.out | apply below_alloc | apply pw_below_drewN | apply below_drew1) | exact HB.out)) hb); clear HB; have HB := n0_; clear n0_; (try clear hb); (try clear hb2); (try clear hk); (try clear hi)) | ((with_reducible refine gate_callee (f := 14) rfl ?_); refine goesL_ (some 187) rfl rfl Tryd.func14 (by kernel_rfl) rfl #[.string t266] rfl (by (try simp only [List.map_toArray, List.map_cons, List.map_nil]); first | done | rfl | (simp only [List.length_drop, List.length_take]; rfl)) ?_; (with_reducible refine (impl_RankOfText.calls kj32 t266 t268 t269 _ A39.out).mono ?_); rintro e w53 ⟨rfl, hb⟩; refine ⟨_, rfl, ?_⟩; have n0_ := Aside0.mk (below_step (by repeat (first | (with_reducible first | exact HB.out | apply below_alloc | apply pw_below_drewN | apply below_drew1) | exact HB.out)) hb); clear HB; have HB := n0_; clear n0_; (try clear hb); (try clear hb2); (try clear hk); (try clear hi)))
        refine Met.intro (hJ_ _ _ ?mg_ ?rel)
        case mg_ => kernel_rfl
        case rel => exact ⟨_, H', ⟨by have := HJ11.out; have := HJ25.out; have := HJ32.out; first | omega | exact Nat.le_refl _⟩, ⟨by repeat (first | (with_reducible first | exact HB.out | apply below_alloc | apply pw_below_drewN | apply below_drew1) | exact HB.out)⟩⟩

set_option maxHeartbeats 8000000 in
set_option maxRecDepth 100000 in
def laws_FnNumbersReflect.c5 : PSigma fun P0_ : Prop => Hole P0_ → laws_FnNumbersReflect.c1.2.1 := by
  refine' ⟨_, fun HP0_ => _⟩
  rotate_left 1
  intro k A0 c0 l0 A1 c1 l1 r w HR0 HC0 HR1 HC1 A3 t247 A5 t248 t249 A6 t250 t251 A7 t252 t253 A8 t254 t255 A9 t256 t257 A10 t258 t259 A11 _ _ _ w13 _ _ _ _ _ _ nd _ _ HB kj11 HJ11 HC22 _ _ f_ wc hcut
  clear HC22
  try clear c1
  try clear c2
  try clear p2
  try clear c3
  try clear c4
  try clear c5
  try clear c6
  try clear p6
  try clear c7
  try clear c8
  try clear c9
  try clear c10
  try clear c11
  try clear c12
  try clear c13
  try clear c14
  try clear c14b0
  try clear c14b1
  try clear c14b2
  try clear c15
  try clear c15b0
  try clear c15b1
  try clear c16
  try clear c16b0
  try clear c16b1
  try clear c16b2
  try clear c17
  try clear c17b0
  try clear c17b1
  try clear c18
  try clear c18b0
  try clear c18b1
  try clear c18b2
  try clear c19
  try clear c19b0
  try clear c19b1
  try clear c20
  try clear c20b0
  try clear c20b1
  try clear c20b2
  try clear c21
  try clear c23
  try clear c27
  try clear c28
  try clear c28b0
  try clear c28b1
  try clear c29
  try clear c30
  try clear c31
  try clear c34
  try clear c35
  try clear c35b0
  try clear c35b1
  try clear c37
  try clear c40
  try clear c41
  try clear c42
  try clear c42b0
  try clear c42b1
  try clear c43
  try clear c43b0
  try clear c43b1
  try clear p2
  try clear p6
  obtain ⟨kq, HA, HJ21, HB⟩ := hcut
  cases kq with
  | zero => exact absurd HA.out (by simp [laws_FnNumbersReflect.j3])
  | succ kj21 =>
    have H := HA.out
    clear HA
    simp only [laws_FnNumbersReflect.j3] at H
    replace H := Option.bind_eq_some_iff.mp H
    obtain ⟨⟨t270, t271⟩, A540, H⟩ := H
    replace H : ((impl_PlainSum.f t270 t271).bind fun bt272 => ((spec_PlainSum.f t270 t271).bind fun bt274 => ((spec_DrawTimesChanged.f kj21 l1).bind fun bt276 => ((impl_TimesChanged.f kj21 bt276.1 bt276.2.1 bt276.2.2).bind fun bt279 => ((spec_TimesChanged.f kj21 bt276.1 bt276.2.1 bt276.2.2).bind fun bt281 => ((spec_DrawReflectedText.f kj21 l1).bind fun bt283 => ((impl_ReflectedText.f kj21 bt283.1 bt283.2).bind fun bt285 => ((spec_ReflectedText.f kj21 bt283.1 bt283.2).bind fun bt287 => ((spec_DrawRankOfText.f kj21 l1).bind fun t289 => ((impl_RankOfText.f kj21 t289).bind fun bt290 => ((spec_RankOfText.f kj21 t289).bind fun bt292 => (if (bt272.2 != bt274.2) = true then (laws_FnNumbersReflect.j4 kj21 t270 t271 bt272.1 bt272.2 bt276.1 bt276.2.1 bt276.2.2 bt279.1 bt279.2 bt283.1 bt283.2 bt285.1 bt285.2 t289 bt290.1 bt290.2 true) else (if bt272.1 = bt274.1 then (if (bt279.2 != bt281.2) = true then (laws_FnNumbersReflect.j4 kj21 t270 t271 bt272.1 bt272.2 bt276.1 bt276.2.1 bt276.2.2 bt279.1 bt279.2 bt283.1 bt283.2 bt285.1 bt285.2 t289 bt290.1 bt290.2 true) else (if bt279.1 = bt281.1 then (if (bt285.2 != bt287.2) = true then (laws_FnNumbersReflect.j4 kj21 t270 t271 bt272.1 bt272.2 bt276.1 bt276.2.1 bt276.2.2 bt279.1 bt279.2 bt283.1 bt283.2 bt285.1 bt285.2 t289 bt290.1 bt290.2 true) else (if bt285.1.toList = bt287.1.toList then (if (bt290.2 != bt292.2) = true then (laws_FnNumbersReflect.j4 kj21 t270 t271 bt272.1 bt272.2 bt276.1 bt276.2.1 bt276.2.2 bt279.1 bt279.2 bt283.1 bt283.2 bt285.1 bt285.2 t289 bt290.1 bt290.2 true) else (laws_FnNumbersReflect.j4 kj21 t270 t271 bt272.1 bt272.2 bt276.1 bt276.2.1 bt276.2.2 bt279.1 bt279.2 bt283.1 bt283.2 bt285.1 bt285.2 t289 bt290.1 bt290.2 (bt290.1 != bt292.1))) else (laws_FnNumbersReflect.j4 kj21 t270 t271 bt272.1 bt272.2 bt276.1 bt276.2.1 bt276.2.2 bt279.1 bt279.2 bt283.1 bt283.2 bt285.1 bt285.2 t289 bt290.1 bt290.2 true))) else (laws_FnNumbersReflect.j4 kj21 t270 t271 bt272.1 bt272.2 bt276.1 bt276.2.1 bt276.2.2 bt279.1 bt279.2 bt283.1 bt283.2 bt285.1 bt285.2 t289 bt290.1 bt290.2 true))) else (laws_FnNumbersReflect.j4 kj21 t270 t271 bt272.1 bt272.2 bt276.1 bt276.2.1 bt276.2.2 bt279.1 bt279.2 bt283.1 bt283.2 bt285.1 bt285.2 t289 bt290.1 bt290.2 true)))))))))))))) = some r := H
    have A54 := Aside0.mk A540
    clear A540
    replace H := Option.bind_eq_some_iff.mp H
    obtain ⟨⟨t272, t273⟩, A550, H⟩ := H
    replace H : ((spec_PlainSum.f t270 t271).bind fun bt274 => ((spec_DrawTimesChanged.f kj21 l1).bind fun bt276 => ((impl_TimesChanged.f kj21 bt276.1 bt276.2.1 bt276.2.2).bind fun bt279 => ((spec_TimesChanged.f kj21 bt276.1 bt276.2.1 bt276.2.2).bind fun bt281 => ((spec_DrawReflectedText.f kj21 l1).bind fun bt283 => ((impl_ReflectedText.f kj21 bt283.1 bt283.2).bind fun bt285 => ((spec_ReflectedText.f kj21 bt283.1 bt283.2).bind fun bt287 => ((spec_DrawRankOfText.f kj21 l1).bind fun t289 => ((impl_RankOfText.f kj21 t289).bind fun bt290 => ((spec_RankOfText.f kj21 t289).bind fun bt292 => (if (t273 != bt274.2) = true then (laws_FnNumbersReflect.j4 kj21 t270 t271 t272 t273 bt276.1 bt276.2.1 bt276.2.2 bt279.1 bt279.2 bt283.1 bt283.2 bt285.1 bt285.2 t289 bt290.1 bt290.2 true) else (if t272 = bt274.1 then (if (bt279.2 != bt281.2) = true then (laws_FnNumbersReflect.j4 kj21 t270 t271 t272 t273 bt276.1 bt276.2.1 bt276.2.2 bt279.1 bt279.2 bt283.1 bt283.2 bt285.1 bt285.2 t289 bt290.1 bt290.2 true) else (if bt279.1 = bt281.1 then (if (bt285.2 != bt287.2) = true then (laws_FnNumbersReflect.j4 kj21 t270 t271 t272 t273 bt276.1 bt276.2.1 bt276.2.2 bt279.1 bt279.2 bt283.1 bt283.2 bt285.1 bt285.2 t289 bt290.1 bt290.2 true) else (if bt285.1.toList = bt287.1.toList then (if (bt290.2 != bt292.2) = true then (laws_FnNumbersReflect.j4 kj21 t270 t271 t272 t273 bt276.1 bt276.2.1 bt276.2.2 bt279.1 bt279.2 bt283.1 bt283.2 bt285.1 bt285.2 t289 bt290.1 bt290.2 true) else (laws_FnNumbersReflect.j4 kj21 t270 t271 t272 t273 bt276.1 bt276.2.1 bt276.2.2 bt279.1 bt279.2 bt283.1 bt283.2 bt285.1 bt285.2 t289 bt290.1 bt290.2 (bt290.1 != bt292.1))) else (laws_FnNumbersReflect.j4 kj21 t270 t271 t272 t273 bt276.1 bt276.2.1 bt276.2.2 bt279.1 bt279.2 bt283.1 bt283.2 bt285.1 bt285.2 t289 bt290.1 bt290.2 true))) else (laws_FnNumbersReflect.j4 kj21 t270 t271 t272 t273 bt276.1 bt276.2.1 bt276.2.2 bt279.1 bt279.2 bt283.1 bt283.2 bt285.1 bt285.2 t289 bt290.1 bt290.2 true))) else (laws_FnNumbersReflect.j4 kj21 t270 t271 t272 t273 bt276.1 bt276.2.1 bt276.2.2 bt279.1 bt279.2 bt283.1 bt283.2 bt285.1 bt285.2 t289 bt290.1 bt290.2 true))))))))))))) = some r := H
    have A55 := Aside0.mk A550
    clear A550
    replace H := Option.bind_eq_some_iff.mp H
    obtain ⟨⟨t274, t275⟩, A560, H⟩ := H
    replace H : ((spec_DrawTimesChanged.f kj21 l1).bind fun bt276 => ((impl_TimesChanged.f kj21 bt276.1 bt276.2.1 bt276.2.2).bind fun bt279 => ((spec_TimesChanged.f kj21 bt276.1 bt276.2.1 bt276.2.2).bind fun bt281 => ((spec_DrawReflectedText.f kj21 l1).bind fun bt283 => ((impl_ReflectedText.f kj21 bt283.1 bt283.2).bind fun bt285 => ((spec_ReflectedText.f kj21 bt283.1 bt283.2).bind fun bt287 => ((spec_DrawRankOfText.f kj21 l1).bind fun t289 => ((impl_RankOfText.f kj21 t289).bind fun bt290 => ((spec_RankOfText.f kj21 t289).bind fun bt292 => (if (t273 != t275) = true then (laws_FnNumbersReflect.j4 kj21 t270 t271 t272 t273 bt276.1 bt276.2.1 bt276.2.2 bt279.1 bt279.2 bt283.1 bt283.2 bt285.1 bt285.2 t289 bt290.1 bt290.2 true) else (if t272 = t274 then (if (bt279.2 != bt281.2) = true then (laws_FnNumbersReflect.j4 kj21 t270 t271 t272 t273 bt276.1 bt276.2.1 bt276.2.2 bt279.1 bt279.2 bt283.1 bt283.2 bt285.1 bt285.2 t289 bt290.1 bt290.2 true) else (if bt279.1 = bt281.1 then (if (bt285.2 != bt287.2) = true then (laws_FnNumbersReflect.j4 kj21 t270 t271 t272 t273 bt276.1 bt276.2.1 bt276.2.2 bt279.1 bt279.2 bt283.1 bt283.2 bt285.1 bt285.2 t289 bt290.1 bt290.2 true) else (if bt285.1.toList = bt287.1.toList then (if (bt290.2 != bt292.2) = true then (laws_FnNumbersReflect.j4 kj21 t270 t271 t272 t273 bt276.1 bt276.2.1 bt276.2.2 bt279.1 bt279.2 bt283.1 bt283.2 bt285.1 bt285.2 t289 bt290.1 bt290.2 true) else (laws_FnNumbersReflect.j4 kj21 t270 t271 t272 t273 bt276.1 bt276.2.1 bt276.2.2 bt279.1 bt279.2 bt283.1 bt283.2 bt285.1 bt285.2 t289 bt290.1 bt290.2 (bt290.1 != bt292.1))) else (laws_FnNumbersReflect.j4 kj21 t270 t271 t272 t273 bt276.1 bt276.2.1 bt276.2.2 bt279.1 bt279.2 bt283.1 bt283.2 bt285.1 bt285.2 t289 bt290.1 bt290.2 true))) else (laws_FnNumbersReflect.j4 kj21 t270 t271 t272 t273 bt276.1 bt276.2.1 bt276.2.2 bt279.1 bt279.2 bt283.1 bt283.2 bt285.1 bt285.2 t289 bt290.1 bt290.2 true))) else (laws_FnNumbersReflect.j4 kj21 t270 t271 t272 t273 bt276.1 bt276.2.1 bt276.2.2 bt279.1 bt279.2 bt283.1 bt283.2 bt285.1 bt285.2 t289 bt290.1 bt290.2 true)))))))))))) = some r := H
    have A56 := Aside0.mk A560
    clear A560
    replace H := Option.bind_eq_some_iff.mp H
    obtain ⟨⟨t276, t277, t278⟩, A570, H⟩ := H
    replace H : ((impl_TimesChanged.f kj21 t276 t277 t278).bind fun bt279 => ((spec_TimesChanged.f kj21 t276 t277 t278).bind fun bt281 => ((spec_DrawReflectedText.f kj21 l1).bind fun bt283 => ((impl_ReflectedText.f kj21 bt283.1 bt283.2).bind fun bt285 => ((spec_ReflectedText.f kj21 bt283.1 bt283.2).bind fun bt287 => ((spec_DrawRankOfText.f kj21 l1).bind fun t289 => ((impl_RankOfText.f kj21 t289).bind fun bt290 => ((spec_RankOfText.f kj21 t289).bind fun bt292 => (if (t273 != t275) = true then (laws_FnNumbersReflect.j4 kj21 t270 t271 t272 t273 t276 t277 t278 bt279.1 bt279.2 bt283.1 bt283.2 bt285.1 bt285.2 t289 bt290.1 bt290.2 true) else (if t272 = t274 then (if (bt279.2 != bt281.2) = true then (laws_FnNumbersReflect.j4 kj21 t270 t271 t272 t273 t276 t277 t278 bt279.1 bt279.2 bt283.1 bt283.2 bt285.1 bt285.2 t289 bt290.1 bt290.2 true) else (if bt279.1 = bt281.1 then (if (bt285.2 != bt287.2) = true then (laws_FnNumbersReflect.j4 kj21 t270 t271 t272 t273 t276 t277 t278 bt279.1 bt279.2 bt283.1 bt283.2 bt285.1 bt285.2 t289 bt290.1 bt290.2 true) else (if bt285.1.toList = bt287.1.toList then (if (bt290.2 != bt292.2) = true then (laws_FnNumbersReflect.j4 kj21 t270 t271 t272 t273 t276 t277 t278 bt279.1 bt279.2 bt283.1 bt283.2 bt285.1 bt285.2 t289 bt290.1 bt290.2 true) else (laws_FnNumbersReflect.j4 kj21 t270 t271 t272 t273 t276 t277 t278 bt279.1 bt279.2 bt283.1 bt283.2 bt285.1 bt285.2 t289 bt290.1 bt290.2 (bt290.1 != bt292.1))) else (laws_FnNumbersReflect.j4 kj21 t270 t271 t272 t273 t276 t277 t278 bt279.1 bt279.2 bt283.1 bt283.2 bt285.1 bt285.2 t289 bt290.1 bt290.2 true))) else (laws_FnNumbersReflect.j4 kj21 t270 t271 t272 t273 t276 t277 t278 bt279.1 bt279.2 bt283.1 bt283.2 bt285.1 bt285.2 t289 bt290.1 bt290.2 true))) else (laws_FnNumbersReflect.j4 kj21 t270 t271 t272 t273 t276 t277 t278 bt279.1 bt279.2 bt283.1 bt283.2 bt285.1 bt285.2 t289 bt290.1 bt290.2 true))))))))))) = some r := H
    have A57 := Aside0.mk A570
    clear A570
    replace H := Option.bind_eq_some_iff.mp H
    obtain ⟨⟨t279, t280⟩, A580, H⟩ := H
    replace H : ((spec_TimesChanged.f kj21 t276 t277 t278).bind fun bt281 => ((spec_DrawReflectedText.f kj21 l1).bind fun bt283 => ((impl_ReflectedText.f kj21 bt283.1 bt283.2).bind fun bt285 => ((spec_ReflectedText.f kj21 bt283.1 bt283.2).bind fun bt287 => ((spec_DrawRankOfText.f kj21 l1).bind fun t289 => ((impl_RankOfText.f kj21 t289).bind fun bt290 => ((spec_RankOfText.f kj21 t289).bind fun bt292 => (if (t273 != t275) = true then (laws_FnNumbersReflect.j4 kj21 t270 t271 t272 t273 t276 t277 t278 t279 t280 bt283.1 bt283.2 bt285.1 bt285.2 t289 bt290.1 bt290.2 true) else (if t272 = t274 then (if (t280 != bt281.2) = true then (laws_FnNumbersReflect.j4 kj21 t270 t271 t272 t273 t276 t277 t278 t279 t280 bt283.1 bt283.2 bt285.1 bt285.2 t289 bt290.1 bt290.2 true) else (if t279 = bt281.1 then (if (bt285.2 != bt287.2) = true then (laws_FnNumbersReflect.j4 kj21 t270 t271 t272 t273 t276 t277 t278 t279 t280 bt283.1 bt283.2 bt285.1 bt285.2 t289 bt290.1 bt290.2 true) else (if bt285.1.toList = bt287.1.toList then (if (bt290.2 != bt292.2) = true then (laws_FnNumbersReflect.j4 kj21 t270 t271 t272 t273 t276 t277 t278 t279 t280 bt283.1 bt283.2 bt285.1 bt285.2 t289 bt290.1 bt290.2 true) else (laws_FnNumbersReflect.j4 kj21 t270 t271 t272 t273 t276 t277 t278 t279 t280 bt283.1 bt283.2 bt285.1 bt285.2 t289 bt290.1 bt290.2 (bt290.1 != bt292.1))) else (laws_FnNumbersReflect.j4 kj21 t270 t271 t272 t273 t276 t277 t278 t279 t280 bt283.1 bt283.2 bt285.1 bt285.2 t289 bt290.1 bt290.2 true))) else (laws_FnNumbersReflect.j4 kj21 t270 t271 t272 t273 t276 t277 t278 t279 t280 bt283.1 bt283.2 bt285.1 bt285.2 t289 bt290.1 bt290.2 true))) else (laws_FnNumbersReflect.j4 kj21 t270 t271 t272 t273 t276 t277 t278 t279 t280 bt283.1 bt283.2 bt285.1 bt285.2 t289 bt290.1 bt290.2 true)))))))))) = some r := H
    have A58 := Aside0.mk A580
    clear A580
    replace H := Option.bind_eq_some_iff.mp H
    obtain ⟨⟨t281, t282⟩, A590, H⟩ := H
    replace H : ((spec_DrawReflectedText.f kj21 l1).bind fun bt283 => ((impl_ReflectedText.f kj21 bt283.1 bt283.2).bind fun bt285 => ((spec_ReflectedText.f kj21 bt283.1 bt283.2).bind fun bt287 => ((spec_DrawRankOfText.f kj21 l1).bind fun t289 => ((impl_RankOfText.f kj21 t289).bind fun bt290 => ((spec_RankOfText.f kj21 t289).bind fun bt292 => (if (t273 != t275) = true then (laws_FnNumbersReflect.j4 kj21 t270 t271 t272 t273 t276 t277 t278 t279 t280 bt283.1 bt283.2 bt285.1 bt285.2 t289 bt290.1 bt290.2 true) else (if t272 = t274 then (if (t280 != t282) = true then (laws_FnNumbersReflect.j4 kj21 t270 t271 t272 t273 t276 t277 t278 t279 t280 bt283.1 bt283.2 bt285.1 bt285.2 t289 bt290.1 bt290.2 true) else (if t279 = t281 then (if (bt285.2 != bt287.2) = true then (laws_FnNumbersReflect.j4 kj21 t270 t271 t272 t273 t276 t277 t278 t279 t280 bt283.1 bt283.2 bt285.1 bt285.2 t289 bt290.1 bt290.2 true) else (if bt285.1.toList = bt287.1.toList then (if (bt290.2 != bt292.2) = true then (laws_FnNumbersReflect.j4 kj21 t270 t271 t272 t273 t276 t277 t278 t279 t280 bt283.1 bt283.2 bt285.1 bt285.2 t289 bt290.1 bt290.2 true) else (laws_FnNumbersReflect.j4 kj21 t270 t271 t272 t273 t276 t277 t278 t279 t280 bt283.1 bt283.2 bt285.1 bt285.2 t289 bt290.1 bt290.2 (bt290.1 != bt292.1))) else (laws_FnNumbersReflect.j4 kj21 t270 t271 t272 t273 t276 t277 t278 t279 t280 bt283.1 bt283.2 bt285.1 bt285.2 t289 bt290.1 bt290.2 true))) else (laws_FnNumbersReflect.j4 kj21 t270 t271 t272 t273 t276 t277 t278 t279 t280 bt283.1 bt283.2 bt285.1 bt285.2 t289 bt290.1 bt290.2 true))) else (laws_FnNumbersReflect.j4 kj21 t270 t271 t272 t273 t276 t277 t278 t279 t280 bt283.1 bt283.2 bt285.1 bt285.2 t289 bt290.1 bt290.2 true))))))))) = some r := H
    have A59 := Aside0.mk A590
    clear A590
    replace H := Option.bind_eq_some_iff.mp H
    obtain ⟨⟨t283, t284⟩, A600, H⟩ := H
    replace H : ((impl_ReflectedText.f kj21 t283 t284).bind fun bt285 => ((spec_ReflectedText.f kj21 t283 t284).bind fun bt287 => ((spec_DrawRankOfText.f kj21 l1).bind fun t289 => ((impl_RankOfText.f kj21 t289).bind fun bt290 => ((spec_RankOfText.f kj21 t289).bind fun bt292 => (if (t273 != t275) = true then (laws_FnNumbersReflect.j4 kj21 t270 t271 t272 t273 t276 t277 t278 t279 t280 t283 t284 bt285.1 bt285.2 t289 bt290.1 bt290.2 true) else (if t272 = t274 then (if (t280 != t282) = true then (laws_FnNumbersReflect.j4 kj21 t270 t271 t272 t273 t276 t277 t278 t279 t280 t283 t284 bt285.1 bt285.2 t289 bt290.1 bt290.2 true) else (if t279 = t281 then (if (bt285.2 != bt287.2) = true then (laws_FnNumbersReflect.j4 kj21 t270 t271 t272 t273 t276 t277 t278 t279 t280 t283 t284 bt285.1 bt285.2 t289 bt290.1 bt290.2 true) else (if bt285.1.toList = bt287.1.toList then (if (bt290.2 != bt292.2) = true then (laws_FnNumbersReflect.j4 kj21 t270 t271 t272 t273 t276 t277 t278 t279 t280 t283 t284 bt285.1 bt285.2 t289 bt290.1 bt290.2 true) else (laws_FnNumbersReflect.j4 kj21 t270 t271 t272 t273 t276 t277 t278 t279 t280 t283 t284 bt285.1 bt285.2 t289 bt290.1 bt290.2 (bt290.1 != bt292.1))) else (laws_FnNumbersReflect.j4 kj21 t270 t271 t272 t273 t276 t277 t278 t279 t280 t283 t284 bt285.1 bt285.2 t289 bt290.1 bt290.2 true))) else (laws_FnNumbersReflect.j4 kj21 t270 t271 t272 t273 t276 t277 t278 t279 t280 t283 t284 bt285.1 bt285.2 t289 bt290.1 bt290.2 true))) else (laws_FnNumbersReflect.j4 kj21 t270 t271 t272 t273 t276 t277 t278 t279 t280 t283 t284 bt285.1 bt285.2 t289 bt290.1 bt290.2 true)))))))) = some r := H
    have A60 := Aside0.mk A600
    clear A600
    replace H := Option.bind_eq_some_iff.mp H
    obtain ⟨⟨t285, t286⟩, A610, H⟩ := H
    replace H : ((spec_ReflectedText.f kj21 t283 t284).bind fun bt287 => ((spec_DrawRankOfText.f kj21 l1).bind fun t289 => ((impl_RankOfText.f kj21 t289).bind fun bt290 => ((spec_RankOfText.f kj21 t289).bind fun bt292 => (if (t273 != t275) = true then (laws_FnNumbersReflect.j4 kj21 t270 t271 t272 t273 t276 t277 t278 t279 t280 t283 t284 t285 t286 t289 bt290.1 bt290.2 true) else (if t272 = t274 then (if (t280 != t282) = true then (laws_FnNumbersReflect.j4 kj21 t270 t271 t272 t273 t276 t277 t278 t279 t280 t283 t284 t285 t286 t289 bt290.1 bt290.2 true) else (if t279 = t281 then (if (t286 != bt287.2) = true then (laws_FnNumbersReflect.j4 kj21 t270 t271 t272 t273 t276 t277 t278 t279 t280 t283 t284 t285 t286 t289 bt290.1 bt290.2 true) else (if t285.toList = bt287.1.toList then (if (bt290.2 != bt292.2) = true then (laws_FnNumbersReflect.j4 kj21 t270 t271 t272 t273 t276 t277 t278 t279 t280 t283 t284 t285 t286 t289 bt290.1 bt290.2 true) else (laws_FnNumbersReflect.j4 kj21 t270 t271 t272 t273 t276 t277 t278 t279 t280 t283 t284 t285 t286 t289 bt290.1 bt290.2 (bt290.1 != bt292.1))) else (laws_FnNumbersReflect.j4 kj21 t270 t271 t272 t273 t276 t277 t278 t279 t280 t283 t284 t285 t286 t289 bt290.1 bt290.2 true))) else (laws_FnNumbersReflect.j4 kj21 t270 t271 t272 t273 t276 t277 t278 t279 t280 t283 t284 t285 t286 t289 bt290.1 bt290.2 true))) else (laws_FnNumbersReflect.j4 kj21 t270 t271 t272 t273 t276 t277 t278 t279 t280 t283 t284 t285 t286 t289 bt290.1 bt290.2 true))))))) = some r := H
    have A61 := Aside0.mk A610
    clear A610
    replace H := Option.bind_eq_some_iff.mp H
    obtain ⟨⟨t287, t288⟩, A620, H⟩ := H
    replace H : ((spec_DrawRankOfText.f kj21 l1).bind fun t289 => ((impl_RankOfText.f kj21 t289).bind fun bt290 => ((spec_RankOfText.f kj21 t289).bind fun bt292 => (if (t273 != t275) = true then (laws_FnNumbersReflect.j4 kj21 t270 t271 t272 t273 t276 t277 t278 t279 t280 t283 t284 t285 t286 t289 bt290.1 bt290.2 true) else (if t272 = t274 then (if (t280 != t282) = true then (laws_FnNumbersReflect.j4 kj21 t270 t271 t272 t273 t276 t277 t278 t279 t280 t283 t284 t285 t286 t289 bt290.1 bt290.2 true) else (if t279 = t281 then (if (t286 != t288) = true then (laws_FnNumbersReflect.j4 kj21 t270 t271 t272 t273 t276 t277 t278 t279 t280 t283 t284 t285 t286 t289 bt290.1 bt290.2 true) else (if t285.toList = t287.toList then (if (bt290.2 != bt292.2) = true then (laws_FnNumbersReflect.j4 kj21 t270 t271 t272 t273 t276 t277 t278 t279 t280 t283 t284 t285 t286 t289 bt290.1 bt290.2 true) else (laws_FnNumbersReflect.j4 kj21 t270 t271 t272 t273 t276 t277 t278 t279 t280 t283 t284 t285 t286 t289 bt290.1 bt290.2 (bt290.1 != bt292.1))) else (laws_FnNumbersReflect.j4 kj21 t270 t271 t272 t273 t276 t277 t278 t279 t280 t283 t284 t285 t286 t289 bt290.1 bt290.2 true))) else (laws_FnNumbersReflect.j4 kj21 t270 t271 t272 t273 t276 t277 t278 t279 t280 t283 t284 t285 t286 t289 bt290.1 bt290.2 true))) else (laws_FnNumbersReflect.j4 kj21 t270 t271 t272 t273 t276 t277 t278 t279 t280 t283 t284 t285 t286 t289 bt290.1 bt290.2 true)))))) = some r := H
    have A62 := Aside0.mk A620
    clear A620
    replace H := Option.bind_eq_some_iff.mp H
    obtain ⟨t289, A630, H⟩ := H
    replace H : ((impl_RankOfText.f kj21 t289).bind fun bt290 => ((spec_RankOfText.f kj21 t289).bind fun bt292 => (if (t273 != t275) = true then (laws_FnNumbersReflect.j4 kj21 t270 t271 t272 t273 t276 t277 t278 t279 t280 t283 t284 t285 t286 t289 bt290.1 bt290.2 true) else (if t272 = t274 then (if (t280 != t282) = true then (laws_FnNumbersReflect.j4 kj21 t270 t271 t272 t273 t276 t277 t278 t279 t280 t283 t284 t285 t286 t289 bt290.1 bt290.2 true) else (if t279 = t281 then (if (t286 != t288) = true then (laws_FnNumbersReflect.j4 kj21 t270 t271 t272 t273 t276 t277 t278 t279 t280 t283 t284 t285 t286 t289 bt290.1 bt290.2 true) else (if t285.toList = t287.toList then (if (bt290.2 != bt292.2) = true then (laws_FnNumbersReflect.j4 kj21 t270 t271 t272 t273 t276 t277 t278 t279 t280 t283 t284 t285 t286 t289 bt290.1 bt290.2 true) else (laws_FnNumbersReflect.j4 kj21 t270 t271 t272 t273 t276 t277 t278 t279 t280 t283 t284 t285 t286 t289 bt290.1 bt290.2 (bt290.1 != bt292.1))) else (laws_FnNumbersReflect.j4 kj21 t270 t271 t272 t273 t276 t277 t278 t279 t280 t283 t284 t285 t286 t289 bt290.1 bt290.2 true))) else (laws_FnNumbersReflect.j4 kj21 t270 t271 t272 t273 t276 t277 t278 t279 t280 t283 t284 t285 t286 t289 bt290.1 bt290.2 true))) else (laws_FnNumbersReflect.j4 kj21 t270 t271 t272 t273 t276 t277 t278 t279 t280 t283 t284 t285 t286 t289 bt290.1 bt290.2 true))))) = some r := H
    have A63 := Aside0.mk A630
    clear A630
    replace H := Option.bind_eq_some_iff.mp H
    obtain ⟨⟨t290, t291⟩, A640, H⟩ := H
    replace H : ((spec_RankOfText.f kj21 t289).bind fun bt292 => (if (t273 != t275) = true then (laws_FnNumbersReflect.j4 kj21 t270 t271 t272 t273 t276 t277 t278 t279 t280 t283 t284 t285 t286 t289 t290 t291 true) else (if t272 = t274 then (if (t280 != t282) = true then (laws_FnNumbersReflect.j4 kj21 t270 t271 t272 t273 t276 t277 t278 t279 t280 t283 t284 t285 t286 t289 t290 t291 true) else (if t279 = t281 then (if (t286 != t288) = true then (laws_FnNumbersReflect.j4 kj21 t270 t271 t272 t273 t276 t277 t278 t279 t280 t283 t284 t285 t286 t289 t290 t291 true) else (if t285.toList = t287.toList then (if (t291 != bt292.2) = true then (laws_FnNumbersReflect.j4 kj21 t270 t271 t272 t273 t276 t277 t278 t279 t280 t283 t284 t285 t286 t289 t290 t291 true) else (laws_FnNumbersReflect.j4 kj21 t270 t271 t272 t273 t276 t277 t278 t279 t280 t283 t284 t285 t286 t289 t290 t291 (t290 != bt292.1))) else (laws_FnNumbersReflect.j4 kj21 t270 t271 t272 t273 t276 t277 t278 t279 t280 t283 t284 t285 t286 t289 t290 t291 true))) else (laws_FnNumbersReflect.j4 kj21 t270 t271 t272 t273 t276 t277 t278 t279 t280 t283 t284 t285 t286 t289 t290 t291 true))) else (laws_FnNumbersReflect.j4 kj21 t270 t271 t272 t273 t276 t277 t278 t279 t280 t283 t284 t285 t286 t289 t290 t291 true)))) = some r := H
    have A64 := Aside0.mk A640
    clear A640
    replace H := Option.bind_eq_some_iff.mp H
    obtain ⟨⟨t292, t293⟩, A650, H⟩ := H
    replace H : (if (t273 != t275) = true then (laws_FnNumbersReflect.j4 kj21 t270 t271 t272 t273 t276 t277 t278 t279 t280 t283 t284 t285 t286 t289 t290 t291 true) else (if t272 = t274 then (if (t280 != t282) = true then (laws_FnNumbersReflect.j4 kj21 t270 t271 t272 t273 t276 t277 t278 t279 t280 t283 t284 t285 t286 t289 t290 t291 true) else (if t279 = t281 then (if (t286 != t288) = true then (laws_FnNumbersReflect.j4 kj21 t270 t271 t272 t273 t276 t277 t278 t279 t280 t283 t284 t285 t286 t289 t290 t291 true) else (if t285.toList = t287.toList then (if (t291 != t293) = true then (laws_FnNumbersReflect.j4 kj21 t270 t271 t272 t273 t276 t277 t278 t279 t280 t283 t284 t285 t286 t289 t290 t291 true) else (laws_FnNumbersReflect.j4 kj21 t270 t271 t272 t273 t276 t277 t278 t279 t280 t283 t284 t285 t286 t289 t290 t291 (t290 != t292))) else (laws_FnNumbersReflect.j4 kj21 t270 t271 t272 t273 t276 t277 t278 t279 t280 t283 t284 t285 t286 t289 t290 t291 true))) else (laws_FnNumbersReflect.j4 kj21 t270 t271 t272 t273 t276 t277 t278 t279 t280 t283 t284 t285 t286 t289 t290 t291 true))) else (laws_FnNumbersReflect.j4 kj21 t270 t271 t272 t273 t276 t277 t278 t279 t280 t283 t284 t285 t286 t289 t290 t291 true))) = some r := H
    have A65 := Aside0.mk A650
    clear A650
    have HC66 := Aside0.mk H
    clear H
    go_upto_region 36 with (first | ((with_reducible refine gate_callee (f := 15) rfl ?_); refine goesL_ (some 207) rfl rfl Tryd.func15 (by kernel_rfl) rfl #[.slice A1 l1.length c1] rfl (by (try simp only [List.map_toArray, List.map_cons, List.map_nil]); first | done | rfl | (simp only [List.length_drop, List.length_take]; rfl)) ?_; (with_reducible refine (spec_DrawPlainSum.calls kj21 _ _ l1 t270 t271 _ ?side1 ?side2 A54.out).mono ?_); (case side1 => repeat (first | exact (Kd.C_below HR1.out HB.out) | (with_reducible refine Kd.C_alloc ?_ _) | (with_reducible refine Kd.C_drewN ?_ _) | (with_reducible refine Kd.C_drew ?_))); (case side2 => exact HC1.out); rintro e w67 ⟨rfl, hb⟩; refine ⟨_, rfl, ?_⟩; have n0_ := Aside0.mk (below_step (by repeat (first | (with_reducible first | exact HB.out | apply below_alloc | apply pw_below_drewN | apply below_drew1) | exact HB.out)) hb); clear HB; have HB := n0_; clear n0_; (try clear hb); (try clear hb2); (try clear hk); (try clear hi)) | ((with_reducible refine gate_callee (f := 12) rfl ?_); refine goesL_ (some 213) rfl rfl Tryd.func12 (by kernel_rfl) rfl #[.int .i64 t270, .int .i64 t271] rfl (by (try simp only [List.map_toArray, List.map_cons, List.map_nil]); first | done | rfl | (simp only [List.length_drop, List.length_take]; rfl)) ?_; (with_reducible refine (impl_PlainSum.calls t270 t271 t272 t273 _ A55.out).mono ?_); rintro e w' ⟨rfl, ⟨nd, rfl⟩⟩; refine ⟨_, rfl, ?_⟩) | ((with_reducible refine gate_callee (f := 16) rfl ?_); refine goesL_ (some 219) rfl rfl Tryd.func16 (by kernel_rfl) rfl #[.int .i64 t270, .int .i64 t271] rfl (by (try simp only [List.map_toArray, List.map_cons, List.map_nil]); first | done | rfl | (simp only [List.length_drop, List.length_take]; rfl)) ?_; (with_reducible refine (spec_PlainSum.calls t270 t271 t274 t275 _ A56.out).mono ?_); rintro e w' ⟨rfl, ⟨nd, rfl⟩⟩; refine ⟨_, rfl, ?_⟩) | ((with_reducible refine gate_callee (f := 17) rfl ?_); refine goesL_ (some 224) rfl rfl Tryd.func17 (by kernel_rfl) rfl #[.slice A1 l1.length c1] rfl (by (try simp only [List.map_toArray, List.map_cons, List.map_nil]); first | done | rfl | (simp only [List.length_drop, List.length_take]; rfl)) ?_; (with_reducible refine (spec_DrawTimesChanged.calls kj21 _ _ l1 t276 t277 t278 _ ?side1 ?side2 A57.out).mono ?_); (case side1 => repeat (first | exact (Kd.C_below HR1.out (by repeat (first | (with_reducible first | exact HB.out | apply below_alloc | apply pw_below_drewN | apply below_drew1) | exact HB.out))) | (with_reducible refine Kd.C_alloc ?_ _) | (with_reducible refine Kd.C_drewN ?_ _) | (with_reducible refine Kd.C_drew ?_))); (case side2 => exact HC1.out); rintro e w68 ⟨rfl, hb⟩; refine ⟨_, rfl, ?_⟩; have n0_ := Aside0.mk (below_step (by repeat (first | (with_reducible first | exact HB.out | apply below_alloc | apply pw_below_drewN | apply below_drew1) | exact HB.out)) hb); clear HB; have HB := n0_; clear n0_; (try clear hb); (try clear hb2); (try clear hk); (try clear hi)) | ((with_reducible refine gate_callee (f := 18) rfl ?_); refine goesL_ (some 232) rfl rfl Tryd.func18 (by kernel_rfl) rfl #[.int .i64 t276, .int .i64 t277, .int .i64 t278] rfl (by (try simp only [List.map_toArray, List.map_cons, List.map_nil]); first | done | rfl | (simp only [List.length_drop, List.length_take]; rfl)) ?_; (with_reducible refine (impl_TimesChanged.calls kj21 t276 t277 t278 t279 t280 _ A58.out).mono ?_); rintro e w' ⟨rfl, ⟨nd, rfl⟩⟩; refine ⟨_, rfl, ?_⟩) | ((with_reducible refine gate_callee (f := 19) rfl ?_); refine goesL_ (some 239) rfl rfl Tryd.func19 (by kernel_rfl) rfl #[.int .i64 t276, .int .i64 t277, .int .i64 t278] rfl (by (try simp only [List.map_toArray, List.map_cons, List.map_nil]); first | done | rfl | (simp only [List.length_drop, List.length_take]; rfl)) ?_; (with_reducible refine (spec_TimesChanged.calls kj21 t276 t277 t278 t281 t282 _ A59.out).mono ?_); rintro e w' ⟨rfl, ⟨nd, rfl⟩⟩; refine ⟨_, rfl, ?_⟩) | ((with_reducible refine gate_callee (f := 20) rfl ?_); refine goesL_ (some 244) rfl rfl Tryd.func20 (by kernel_rfl) rfl #[.slice A1 l1.length c1] rfl (by (try simp only [List.map_toArray, List.map_cons, List.map_nil]); first | done | rfl | (simp only [List.length_drop, List.length_take]; rfl)) ?_; (with_reducible refine (spec_DrawReflectedText.calls kj21 _ _ l1 t283 t284 _ ?side1 ?side2 A60.out).mono ?_); (case side1 => repeat (first | exact (Kd.C_below HR1.out (by repeat (first | (with_reducible first | exact HB.out | apply below_alloc | apply pw_below_drewN | apply below_drew1) | exact HB.out))) | (with_reducible refine Kd.C_alloc ?_ _) | (with_reducible refine Kd.C_drewN ?_ _) | (with_reducible refine Kd.C_drew ?_))); (case side2 => exact HC1.out); rintro e w69 ⟨rfl, hb⟩; refine ⟨_, rfl, ?_⟩; have n0_ := Aside0.mk (below_step (by repeat (first | (with_reducible first | exact HB.out | apply below_alloc | apply pw_below_drewN | apply below_drew1) | exact HB.out)) hb); clear HB; have HB := n0_; clear n0_; (try clear hb); (try clear hb2); (try clear hk); (try clear hi)) | ((with_reducible refine gate_callee (f := 13) rfl ?_); refine goesL_ (some 250) rfl rfl Tryd.func13 (by kernel_rfl) rfl #[.int .i64 t283, .int .i64 t284] rfl (by (try simp only [List.map_toArray, List.map_cons, List.map_nil]); first | done | rfl | (simp only [List.length_drop, List.length_take]; rfl)) ?_; (with_reducible refine (impl_ReflectedText.calls kj21 t283 t284 t285 t286 _ A61.out).mono ?_); rintro e w70 ⟨rfl, hb⟩; refine ⟨_, rfl, ?_⟩; have n0_ := Aside0.mk (below_step (by repeat (first | (with_reducible first | exact HB.out | apply below_alloc | apply pw_below_drewN | apply below_drew1) | exact HB.out)) hb); clear HB; have HB := n0_; clear n0_; (try clear hb); (try clear hb2); (try clear hk); (try clear hi)) | ((with_reducible refine gate_callee (f := 21) rfl ?_); refine goesL_ (some 256) rfl rfl Tryd.func21 (by kernel_rfl) rfl #[.int .i64 t283, .int .i64 t284] rfl (by (try simp only [List.map_toArray, List.map_cons, List.map_nil]); first | done | rfl | (simp only [List.length_drop, List.length_take]; rfl)) ?_; (with_reducible refine (spec_ReflectedText.calls kj21 t283 t284 t287 t288 _ A62.out).mono ?_); rintro e w71 ⟨rfl, hb⟩; refine ⟨_, rfl, ?_⟩; have n0_ := Aside0.mk (below_step (by repeat (first | (with_reducible first | exact HB.out | apply below_alloc | apply pw_below_drewN | apply below_drew1) | exact HB.out)) hb); clear HB; have HB := n0_; clear n0_; (try clear hb); (try clear hb2); (try clear hk); (try clear hi)) | ((with_reducible refine gate_callee (f := 22) rfl ?_); refine goesL_ (some 260) rfl rfl Tryd.func22 (by kernel_rfl) rfl #[.slice A1 l1.length c1] rfl (by (try simp only [List.map_toArray, List.map_cons, List.map_nil]); first | done | rfl | (simp only [List.length_drop, List.length_take]; rfl)) ?_; (with_reducible refine (spec_DrawRankOfText.calls kj21 _ _ l1 t289 _ ?side1 ?side2 A63.out).mono ?_); (case side1 => repeat (first | exact (Kd.C_below HR1.out HB.out) | (with_reducible refine Kd.C_alloc ?_ _) | (with_reducible refine Kd.C_drewN ?_ _) | (with_reducible refine Kd.C_drew ?_))); (case side2 => exact HC1.out); rintro e w72 ⟨rfl, hb⟩; refine ⟨_, rfl, ?_⟩; have n0_ := Aside0.mk (below_step (by repeat (first | (with_reducible first | exact HB.out | apply below_alloc | apply pw_below_drewN | apply below_drew1) | exact HB.out)) hb); clear HB; have HB := n0_; clear n0_; (try clear hb); (try clear hb2); (try clear hk); (try clear hi)) | ((with_reducible refine gate_callee (f := 14) rfl ?_); refine goesL_ (some 263) rfl rfl Tryd.func14 (by kernel_rfl) rfl #[.string t289] rfl (by (try simp only [List.map_toArray, List.map_cons, List.map_nil]); first | done | rfl | (simp only [List.length_drop, List.length_take]; rfl)) ?_; (with_reducible refine (impl_RankOfText.calls kj21 t289 t290 t291 _ A64.out).mono ?_); rintro e w73 ⟨rfl, hb⟩; refine ⟨_, rfl, ?_⟩; have n0_ := Aside0.mk (below_step (by repeat (first | (with_reducible first | exact HB.out | apply below_alloc | apply pw_below_drewN | apply below_drew1) | exact HB.out)) hb); clear HB; have HB := n0_; clear n0_; (try clear hb); (try clear hb2); (try clear hk); (try clear hi)) | ((with_reducible refine gate_callee (f := 23) rfl ?_); refine goesL_ (some 268) rfl rfl Tryd.func23 (by kernel_rfl) rfl #[.string t289] rfl (by (try simp only [List.map_toArray, List.map_cons, List.map_nil]); first | done | rfl | (simp only [List.length_drop, List.length_take]; rfl)) ?_; (with_reducible refine (spec_RankOfText.calls kj21 t289 t292 t293 _ A65.out).mono ?_); rintro e w74 ⟨rfl, hb⟩; refine ⟨_, rfl, ?_⟩; have n0_ := Aside0.mk (below_step (by repeat (first | (with_reducible first | exact HB.out | apply below_alloc | apply pw_below_drewN | apply below_drew1) | exact HB.out)) hb); clear HB; have HB := n0_; clear n0_; (try clear hb); (try clear hb2); (try clear hk); (try clear hi)))
    (try simp only [Act.put, List.setIfInBounds_toArray, List.set_cons_zero, List.set_cons_succ])
    refine wp_cutF [o_,o_,o_,o_,o_,o_,o_,o_,o_,o_,o_,o_,o_,o_,o_,o_,o_,o_,o_,o_,o_,o_,o_,o_,o_,o_,o_,o_,o_,o_,o_,o_,o_,o_,o_,o_,o_,o_,o_,o_,o_,o_,o_,o_,o_,o_,o_,o_,o_,o_,o_,o_,o_,o_,o_,o_,o_,o_,o_,o_,o_,o_,o_,o_,i_,i_,i_,i_,i_,i_,i_,i_,i_,i_,i_,i_,i_,i_,i_,i_,i_,i_,i_,i_,i_,i_,i_,i_,i_,i_,i_,i_,i_,i_,i_,i_,i_,i_,i_,i_,i_,i_,i_,i_,i_,i_,i_,i_,i_,i_,i_,i_,i_,i_,i_,i_,i_,i_,i_,i_,i_,i_,i_,i_,i_,i_,i_,i_,i_,i_,i_,i_,i_,i_,i_,i_,i_,i_,i_,i_,i_,i_,i_,i_,i_,i_,i_,i_,i_,i_,i_,i_,i_,i_,i_,i_,i_,i_,i_,i_,i_,i_,i_,i_,i_,i_,i_,i_,i_,i_,i_,i_,i_,i_,i_,i_,i_,i_,i_,i_,i_,i_,i_,i_,i_,i_,i_,i_,i_,i_,i_,i_,i_,i_,i_,i_,i_,i_,i_,i_,i_,i_,i_,i_,i_,i_,i_,i_,i_,i_,i_,i_,i_,i_,i_,i_,i_,i_,i_,i_,i_,i_,i_,i_,i_,i_,i_,i_,i_,i_,i_,i_,i_,i_,i_,i_,i_,i_,i_,i_,i_,i_,i_,i_,i_,i_,i_,i_,i_,i_,i_,i_,i_,i_,i_,i_,i_,i_,i_,i_,i_,i_,i_,i_,i_,i_,i_,i_,i_,i_,i_,i_,i_,i_,i_,i_,i_,i_,i_,i_,i_,i_,i_,i_,i_,i_,i_,i_,i_,i_,i_,i_,i_,i_,i_,i_,i_,i_,i_,i_,i_,i_,i_,i_,i_,i_,i_,i_,i_,i_,i_,i_,i_,i_,i_,i_,i_,i_,i_,i_,i_,i_,i_,i_,i_,i_,i_,i_,i_,i_,i_,i_,i_,i_,i_,i_,i_,i_,i_,i_,i_,i_,i_,i_,i_,i_,i_,i_,i_,i_,i_,i_,i_,i_,i_,i_,i_,i_,i_,i_,i_,i_,i_,i_,i_,i_,i_,i_,i_,i_,i_,i_,i_,i_,i_,i_,i_,i_,i_,i_,i_,i_,i_,i_,i_,i_,i_,i_,i_,i_,i_,i_,i_,i_,i_,i_,i_,i_,i_,i_,i_,i_,i_,i_,i_,i_] (fun f_ wc => ∃ (kq : Nat) (x308_65 : Bool), (f_ 308) = .bool x308_65 ∧ Aside0 (laws_FnNumbersReflect.j4 kq t270 t271 t272 t273 t276 t277 t278 t279 t280 t283 t284 t285 t286 t289 t290 t291 x308_65 = some r) ∧ Aside0 (kq ≤ kj21) ∧ Aside0 (Below w.heap.size w wc)) ?rest ?first
    case first =>
      intro J_ K_ hJ_ hK_
      have H := HC66.out
      clear HC66
      by_cases c75 : (t273 != t275) = true
      · rw [if_pos c75] at H
        have c75b0 : (t273 != t275) = true := c75
        (try (have c75b1 : decide (t273 = t275) = false := by simpa using c75))
        (try (have c75b2 : (t273 == t275) = false := by simpa using c75))
        (try (have c75b3 : ¬ (t273 = t275) := by simpa using c75))
        clear c75
        (first | rw [c75b0] | (simp only [i64_w, i32_w]; rw [c75b0]) | skip)
        have H' := Aside0.mk H
        clear H
        go_wp2
        refine Met.intro (hJ_ _ _ ?mg_ ?rel)
        case mg_ => kernel_rfl
        case rel => exact ⟨_, (true), (by first | rfl | ((conv => lhs; whnf); first | rfl | (simp; done) | (simp [*]; done))), H', ⟨by have := HJ11.out; have := HJ21.out; first | omega | exact Nat.le_refl _⟩, ⟨by repeat (first | (with_reducible first | exact HB.out | apply below_alloc | apply pw_below_drewN | apply below_drew1) | exact HB.out)⟩⟩
      · rw [if_neg c75] at H
        have c75b0 : (t273 != t275) = false := by simpa using c75
        (try (have c75b1 : decide (t273 = t275) = true := by simpa using c75))
        (try (have c75b2 : (t273 == t275) = true := by simpa using c75))
        clear c75
        (try (have c75e : t273 = t275 := by first | simpa using c75b0 | (simpa using (bne_eq_false_iff_eq.mp c75b0).symm)); (subst c75e))
        (first | rw [c75b0] | (simp only [i64_w, i32_w]; rw [c75b0]) | skip)
        by_cases c76 : t272 = t274
        · rw [if_pos c76] at H
          have c76b0 : (t272 == t274) = true := beq_iff_eq.mpr c76
          have c76b1 : (t272 != t274) = false := bne_eq_false_iff_eq.mpr c76
          clear c76
          by_cases c77 : (t280 != t282) = true
          · rw [if_pos c77] at H
            have c77b0 : (t280 != t282) = true := c77
            (try (have c77b1 : decide (t280 = t282) = false := by simpa using c77))
            (try (have c77b2 : (t280 == t282) = false := by simpa using c77))
            (try (have c77b3 : ¬ (t280 = t282) := by simpa using c77))
            clear c77
            have H' := Aside0.mk H
            clear H
            go_wp2
            refine Met.intro (hJ_ _ _ ?mg_ ?rel)
            case mg_ => kernel_rfl
            case rel => exact ⟨_, (true), (by first | rfl | ((conv => lhs; whnf); first | rfl | (simp; done) | (simp [*]; done))), H', ⟨by have := HJ11.out; have := HJ21.out; first | omega | exact Nat.le_refl _⟩, ⟨by repeat (first | (with_reducible first | exact HB.out | apply below_alloc | apply pw_below_drewN | apply below_drew1) | exact HB.out)⟩⟩
          · rw [if_neg c77] at H
            have c77b0 : (t280 != t282) = false := by simpa using c77
            (try (have c77b1 : decide (t280 = t282) = true := by simpa using c77))
            (try (have c77b2 : (t280 == t282) = true := by simpa using c77))
            clear c77
            (try (have c77e : t280 = t282 := by first | simpa using c77b0 | (simpa using (bne_eq_false_iff_eq.mp c77b0).symm)); (subst c77e))
            by_cases c78 : t279 = t281
            · rw [if_pos c78] at H
              have c78b0 : (t279 == t281) = true := beq_iff_eq.mpr c78
              have c78b1 : (t279 != t281) = false := bne_eq_false_iff_eq.mpr c78
              clear c78
              by_cases c79 : (t286 != t288) = true
              · rw [if_pos c79] at H
                have c79b0 : (t286 != t288) = true := c79
                (try (have c79b1 : decide (t286 = t288) = false := by simpa using c79))
                (try (have c79b2 : (t286 == t288) = false := by simpa using c79))
                (try (have c79b3 : ¬ (t286 = t288) := by simpa using c79))
                clear c79
                have H' := Aside0.mk H
                clear H
                go_wp2
                refine Met.intro (hJ_ _ _ ?mg_ ?rel)
                case mg_ => kernel_rfl
                case rel => exact ⟨_, (true), (by first | rfl | ((conv => lhs; whnf); first | rfl | (simp; done) | (simp [*]; done))), H', ⟨by have := HJ11.out; have := HJ21.out; first | omega | exact Nat.le_refl _⟩, ⟨by repeat (first | (with_reducible first | exact HB.out | apply below_alloc | apply pw_below_drewN | apply below_drew1) | exact HB.out)⟩⟩
              · rw [if_neg c79] at H
                have c79b0 : (t286 != t288) = false := by simpa using c79
                (try (have c79b1 : decide (t286 = t288) = true := by simpa using c79))
                (try (have c79b2 : (t286 == t288) = true := by simpa using c79))
                clear c79
                (try (have c79e : t286 = t288 := by first | simpa using c79b0 | (simpa using (bne_eq_false_iff_eq.mp c79b0).symm)); (subst c79e))
                by_cases c80 : t285.toList = t287.toList
                · rw [if_pos c80] at H
                  have c80b0 : (t285.toList == t287.toList) = true := beq_iff_eq.mpr c80
                  have c80b1 : (t285.toList != t287.toList) = false := bne_eq_false_iff_eq.mpr c80
                  (try (have c80n1 : (!(t285.toList == t287.toList)) = false := c80b1))
                  clear c80
                  by_cases c81 : (t291 != t293) = true
                  · rw [if_pos c81] at H
                    have c81b0 : (t291 != t293) = true := c81
                    (try (have c81b1 : decide (t291 = t293) = false := by simpa using c81))
                    (try (have c81b2 : (t291 == t293) = false := by simpa using c81))
                    (try (have c81b3 : ¬ (t291 = t293) := by simpa using c81))
                    clear c81
                    have H' := Aside0.mk H
                    clear H
                    go_wp2
                    refine Met.intro (hJ_ _ _ ?mg_ ?rel)
                    case mg_ => kernel_rfl
                    case rel => exact ⟨_, (true), (by first | rfl | ((conv => lhs; whnf); first | rfl | (simp; done) | (simp [*]; done))), H', ⟨by have := HJ11.out; have := HJ21.out; first | omega | exact Nat.le_refl _⟩, ⟨by repeat (first | (with_reducible first | exact HB.out | apply below_alloc | apply pw_below_drewN | apply below_drew1) | exact HB.out)⟩⟩
                  · rw [if_neg c81] at H
                    have c81b0 : (t291 != t293) = false := by simpa using c81
                    (try (have c81b1 : decide (t291 = t293) = true := by simpa using c81))
                    (try (have c81b2 : (t291 == t293) = true := by simpa using c81))
                    clear c81
                    (try (have c81e : t291 = t293 := by first | simpa using c81b0 | (simpa using (bne_eq_false_iff_eq.mp c81b0).symm)); (subst c81e))
                    have H' := Aside0.mk H
                    clear H
                    go_wp2
                    refine Met.intro (hJ_ _ _ ?mg_ ?rel)
                    case mg_ => kernel_rfl
                    case rel => exact ⟨_, ((t290 != t292)), (by first | rfl | ((conv => lhs; whnf); first | rfl | (simp; done) | (simp [*]; done))), H', ⟨by have := HJ11.out; have := HJ21.out; first | omega | exact Nat.le_refl _⟩, ⟨by repeat (first | (with_reducible first | exact HB.out | apply below_alloc | apply pw_below_drewN | apply below_drew1) | exact HB.out)⟩⟩
                · rw [if_neg c80] at H
                  have c80b0 : (t285.toList == t287.toList) = false := beq_eq_false_iff_ne.mpr c80
                  have c80b1 : (t285.toList != t287.toList) = true := bne_iff_ne.mpr c80
                  (try (have c80n1 : (!(t285.toList == t287.toList)) = true := c80b1))
                  have H' := Aside0.mk H
                  clear H
                  go_wp2
                  refine Met.intro (hJ_ _ _ ?mg_ ?rel)
                  case mg_ => kernel_rfl
                  case rel => exact ⟨_, (true), (by first | rfl | ((conv => lhs; whnf); first | rfl | (simp; done) | (simp [*]; done))), H', ⟨by have := HJ11.out; have := HJ21.out; first | omega | exact Nat.le_refl _⟩, ⟨by repeat (first | (with_reducible first | exact HB.out | apply below_alloc | apply pw_below_drewN | apply below_drew1) | exact HB.out)⟩⟩
            · rw [if_neg c78] at H
              have c78b0 : (t279 == t281) = false := beq_eq_false_iff_ne.mpr c78
              have c78b1 : (t279 != t281) = true := bne_iff_ne.mpr c78
              have H' := Aside0.mk H
              clear H
              go_wp2
              refine Met.intro (hJ_ _ _ ?mg_ ?rel)
              case mg_ => kernel_rfl
              case rel => exact ⟨_, (true), (by first | rfl | ((conv => lhs; whnf); first | rfl | (simp; done) | (simp [*]; done))), H', ⟨by have := HJ11.out; have := HJ21.out; first | omega | exact Nat.le_refl _⟩, ⟨by repeat (first | (with_reducible first | exact HB.out | apply below_alloc | apply pw_below_drewN | apply below_drew1) | exact HB.out)⟩⟩
        · rw [if_neg c76] at H
          have c76b0 : (t272 == t274) = false := beq_eq_false_iff_ne.mpr c76
          have c76b1 : (t272 != t274) = true := bne_iff_ne.mpr c76
          have H' := Aside0.mk H
          clear H
          go_wp2
          refine Met.intro (hJ_ _ _ ?mg_ ?rel)
          case mg_ => kernel_rfl
          case rel => exact ⟨_, (true), (by first | rfl | ((conv => lhs; whnf); first | rfl | (simp; done) | (simp [*]; done))), H', ⟨by have := HJ11.out; have := HJ21.out; first | omega | exact Nat.le_refl _⟩, ⟨by repeat (first | (with_reducible first | exact HB.out | apply below_alloc | apply pw_below_drewN | apply below_drew1) | exact HB.out)⟩⟩
    case rest =>
      intro f_ wc hcut
      dsimp only [maskF] at hcut ⊢
      generalize f_ 308 = u308 at hcut ⊢
      repeat revert ‹_›
      intro HP0_
      exact HP0_.out

set_option maxHeartbeats 8000000 in
set_option maxRecDepth 100000 in
def laws_FnNumbersReflect.c6 : PSigma fun P0_ : Prop => PSigma fun P1_ : Prop => Hole P0_ → Hole P1_ → laws_FnNumbersReflect.c5.1 := by
  refine' ⟨_, _, fun HP0_ HP1_ => _⟩
  rotate_left 2
  intro k A0 c0 l0 A1 c1 l1 r w HR0 HC0 HR1 HC1 A3 t247 A5 t248 t249 A6 t250 t251 A7 t252 t253 A8 t254 t255 A9 t256 t257 A10 t258 t259 A11 _ _ _ w13 _ _ _ _ _ _ _ _ _ _ kj11 HJ11 _ _ kj21 HJ21 t270 t271 A54 t272 t273 A55 t274 t275 A56 t276 t277 t278 A57 t279 t280 A58 t281 t282 A59 t283 t284 A60 t285 t286 A61 t287 t288 A62 t289 A63 t290 t291 A64 t292 t293 A65 HC66 w67 _ _ w68 _ nd w69 w70 w71 w72 w73 w74 HB _ _ _ _ f_ wc u308 hcut
  clear HC66
  try clear c1
  try clear c2
  try clear p2
  try clear c3
  try clear c4
  try clear c5
  try clear c6
  try clear p6
  try clear c7
  try clear c8
  try clear c9
  try clear c10
  try clear c11
  try clear c12
  try clear c13
  try clear c14
  try clear c14b0
  try clear c14b1
  try clear c14b2
  try clear c15
  try clear c15b0
  try clear c15b1
  try clear c16
  try clear c16b0
  try clear c16b1
  try clear c16b2
  try clear c17
  try clear c17b0
  try clear c17b1
  try clear c18
  try clear c18b0
  try clear c18b1
  try clear c18b2
  try clear c19
  try clear c19b0
  try clear c19b1
  try clear c20
  try clear c20b0
  try clear c20b1
  try clear c20b2
  try clear c21
  try clear c22
  try clear c23
  try clear c27
  try clear c28
  try clear c28b0
  try clear c28b1
  try clear c29
  try clear c30
  try clear c31
  try clear c34
  try clear c35
  try clear c35b0
  try clear c35b1
  try clear c37
  try clear c40
  try clear c41
  try clear c42
  try clear c42b0
  try clear c42b1
  try clear c43
  try clear c43b0
  try clear c43b1
  try clear p64
  try clear c75
  try clear c75b0
  try clear c75b1
  try clear c75b2
  try clear c76
  try clear c76b0
  try clear c76b1
  try clear c77
  try clear c77b0
  try clear c77b1
  try clear c77b2
  try clear c78
  try clear c78b0
  try clear c78b1
  try clear c79
  try clear c79b0
  try clear c79b1
  try clear c79b2
  try clear c80
  try clear c80b0
  try clear c80b1
  try clear c81
  try clear c81b0
  try clear c81b1
  try clear c81b2
  try clear p2
  try clear p6
  obtain ⟨kq, x308_65, rfl, HA, HJ65, HB⟩ := hcut
  cases kq with
  | zero => exact absurd HA.out (by simp [laws_FnNumbersReflect.j4])
  | succ kj65 =>
    have H := HA.out
    clear HA
    simp only [laws_FnNumbersReflect.j4] at H
    by_cases c82 : x308_65 = true
    · subst c82
      have H1 : (some false) = some r := by rw [if_pos rfl] at H; exact H
      clear H
      have H := H1
      clear H1
      obtain rfl := Option.some.inj H
      go_wp2
      go_ret
      exact ⟨by first | rfl | (simp [errW_none, errW_some] <;> rfl) | (simp [*, errW_none, errW_some] <;> rfl), by repeat (first | (with_reducible first | exact HB.out | apply below_alloc | apply pw_below_drewN | apply below_drew1) | exact HB.out)⟩
    · replace c82 := Bool.eq_false_iff.mpr c82
      subst c82
      have H1 : (if t273 = true then ((impl_PlainSum.f t271 t270).bind fun bt294 => ((impl_PlainSum.f t272 t271).bind fun bt296 => (if bt294.2 = true then (if bt294.1 = t272 then (if bt296.2 = true then (if bt296.1 = t270 then (laws_FnNumbersReflect.j5 kj65 t276 t277 t278 t279 t280 t283 t284 t285 t286 t289 t290 t291) else (some false)) else (laws_FnNumbersReflect.j5 kj65 t276 t277 t278 t279 t280 t283 t284 t285 t286 t289 t290 t291)) else (some false)) else (some false)))) else (laws_FnNumbersReflect.j5 kj65 t276 t277 t278 t279 t280 t283 t284 t285 t286 t289 t290 t291)) = some r := by rw [if_neg (show ¬ (false = true) by decide)] at H; exact H
      clear H
      have H := H1
      clear H1
      have HC83 := Aside0.mk H
      clear H
      go_upto_if 309 with (fail)
      refine wp_cutF [o_,o_,o_,o_,i_,o_,o_,o_,o_,o_,o_,o_,o_,o_,o_,o_,o_,o_,o_,o_,o_,o_,o_,o_,o_,o_,o_,o_,o_,o_,o_,o_,o_,o_,o_,o_,o_,o_,o_,o_,o_,o_,o_,o_,o_,o_,o_,o_,o_,o_,o_,o_,i_,i_,i_,i_,o_,o_,o_,o_,o_,o_,o_,o_,i_,i_,i_,i_,i_,i_,i_,i_,i_,i_,i_,i_,i_,i_,i_,i_,i_,i_,i_,i_,i_,i_,i_,i_,i_,i_,i_,i_,i_,i_,i_,i_,i_,i_,i_,i_,i_,i_,i_,i_,i_,i_,i_,i_,i_,i_,i_,i_,i_,i_,i_,i_,i_,i_,i_,i_,i_,i_,i_,i_,i_,i_,i_,i_,i_,i_,i_,i_,i_,i_,i_,i_,i_,i_,i_,i_,i_,i_,i_,i_,i_,i_,i_,i_,i_,i_,i_,i_,i_,i_,i_,i_,i_,i_,i_,i_,i_,i_,i_,i_,i_,i_,i_,i_,i_,i_,i_,i_,i_,i_,i_,i_,i_,i_,i_,i_,i_,i_,i_,i_,i_,i_,i_,i_,i_,i_,i_,i_,i_,i_,i_,i_,i_,i_,i_,i_,i_,i_,i_,i_,i_,i_,i_,i_,i_,i_,i_,i_,i_,i_,i_,i_,i_,i_,i_,i_,i_,i_,i_,i_,i_,i_,i_,i_,i_,i_,i_,i_,i_,i_,i_,i_,i_,i_,i_,i_,i_,i_,i_,i_,i_,i_,i_,i_,i_,i_,i_,i_,i_,i_,i_,i_,i_,i_,i_,i_,i_,i_,i_,i_,i_,i_,i_,i_,i_,i_,i_,i_,i_,i_,i_,i_,i_,i_,i_,i_,i_,i_,i_,i_,i_,i_,i_,i_,i_,i_,i_,i_,i_,i_,i_,i_,i_,i_,i_,i_,i_,i_,i_,i_,i_,i_,i_,i_,i_,i_,i_,i_,i_,i_,i_,i_,i_,i_,i_,i_,i_,i_,i_,i_,i_,i_,i_,i_,i_,i_,i_,i_,i_,i_,i_,i_,i_,i_,i_,i_,i_,i_,i_,i_,i_,i_,i_,i_,i_,i_,i_,i_,i_,i_,i_,i_,i_,i_,i_,i_,i_,i_,i_,i_,i_,i_,i_,i_,i_,i_,i_,i_,i_,i_,i_,i_,i_,i_,i_,i_,i_,i_,i_,i_,i_,i_,i_,i_,i_,i_,i_,i_,i_,i_,i_,i_,i_,i_,i_,i_,i_,i_,i_,i_,i_,i_] (fun f_ wc => ∃ (kq : Nat), Aside0 (laws_FnNumbersReflect.j5 kq t276 t277 t278 t279 t280 t283 t284 t285 t286 t289 t290 t291 = some r) ∧ Aside0 (kq ≤ kj65) ∧ Aside0 (Below w.heap.size w wc)) ?rest ?first
      case first =>
        intro J_ K_ hJ_ hK_
        repeat revert ‹_›
        intro HP0_ HP1_
        exact HP0_.out
      case rest =>
        intro f_ wc hcut
        dsimp only [maskF] at hcut ⊢
        repeat revert ‹_›
        intro HP0_ HP1_
        exact HP1_.out

set_option maxHeartbeats 8000000 in
set_option maxRecDepth 100000 in
theorem laws_FnNumbersReflect.c7 : laws_FnNumbersReflect.c6.1 := by
  intro k A0 c0 l0 A1 c1 l1 r w HR0 HC0 HR1 HC1 A3 t247 A5 t248 t249 A6 t250 t251 A7 t252 t253 A8 t254 t255 A9 t256 t257 A10 t258 t259 A11 _ _ _ w13 _ _ _ _ _ _ _ _ _ _ kj11 HJ11 _ _ kj21 HJ21 t270 t271 A54 t272 t273 A55 t274 t275 A56 t276 t277 t278 A57 t279 t280 A58 t281 t282 A59 t283 t284 A60 t285 t286 A61 t287 t288 A62 t289 A63 t290 t291 A64 t292 t293 A65 w67 _ _ w68 _ nd w69 w70 w71 w72 w73 w74 _ f_ wc HB kj65 HJ65 HC83 _ _ J_ K_ hJ_ hK_
  have H := HC83.out
  clear HC83
  by_cases c84 : t273 = true
  · subst c84
    have H1 : ((impl_PlainSum.f t271 t270).bind fun bt294 => ((impl_PlainSum.f t272 t271).bind fun bt296 => (if bt294.2 = true then (if bt294.1 = t272 then (if bt296.2 = true then (if bt296.1 = t270 then (laws_FnNumbersReflect.j5 kj65 t276 t277 t278 t279 t280 t283 t284 t285 t286 t289 t290 t291) else (some false)) else (laws_FnNumbersReflect.j5 kj65 t276 t277 t278 t279 t280 t283 t284 t285 t286 t289 t290 t291)) else (some false)) else (some false)))) = some r := by rw [if_pos rfl] at H; exact H
    clear H
    have H := H1
    clear H1
    replace H := Option.bind_eq_some_iff.mp H
    obtain ⟨⟨t294, t295⟩, A850, H⟩ := H
    replace H : ((impl_PlainSum.f t272 t271).bind fun bt296 => (if t295 = true then (if t294 = t272 then (if bt296.2 = true then (if bt296.1 = t270 then (laws_FnNumbersReflect.j5 kj65 t276 t277 t278 t279 t280 t283 t284 t285 t286 t289 t290 t291) else (some false)) else (laws_FnNumbersReflect.j5 kj65 t276 t277 t278 t279 t280 t283 t284 t285 t286 t289 t290 t291)) else (some false)) else (some false))) = some r := H
    have A85 := Aside0.mk A850
    clear A850
    replace H := Option.bind_eq_some_iff.mp H
    obtain ⟨⟨t296, t297⟩, A860, H⟩ := H
    replace H : (if t295 = true then (if t294 = t272 then (if t297 = true then (if t296 = t270 then (laws_FnNumbersReflect.j5 kj65 t276 t277 t278 t279 t280 t283 t284 t285 t286 t289 t290 t291) else (some false)) else (laws_FnNumbersReflect.j5 kj65 t276 t277 t278 t279 t280 t283 t284 t285 t286 t289 t290 t291)) else (some false)) else (some false)) = some r := H
    have A86 := Aside0.mk A860
    clear A860
    by_cases c87 : t295 = true
    · subst c87
      have H1 : (if t294 = t272 then (if t297 = true then (if t296 = t270 then (laws_FnNumbersReflect.j5 kj65 t276 t277 t278 t279 t280 t283 t284 t285 t286 t289 t290 t291) else (some false)) else (laws_FnNumbersReflect.j5 kj65 t276 t277 t278 t279 t280 t283 t284 t285 t286 t289 t290 t291)) else (some false)) = some r := by rw [if_pos rfl] at H; exact H
      clear H
      have H := H1
      clear H1
      by_cases c88 : t294 = t272
      · rw [if_pos c88] at H
        have c88b0 : (t294 == t272) = true := beq_iff_eq.mpr c88
        have c88b1 : (t294 != t272) = false := bne_eq_false_iff_eq.mpr c88
        clear c88
        (first | rw [c88b0] | (simp only [i64_w, i32_w]; rw [c88b0]) | skip)
        by_cases c89 : t297 = true
        · subst c89
          have H1 : (if t296 = t270 then (laws_FnNumbersReflect.j5 kj65 t276 t277 t278 t279 t280 t283 t284 t285 t286 t289 t290 t291) else (some false)) = some r := by rw [if_pos rfl] at H; exact H
          clear H
          have H := H1
          clear H1
          by_cases c90 : t296 = t270
          · rw [if_pos c90] at H
            have c90b0 : (t296 == t270) = true := beq_iff_eq.mpr c90
            have c90b1 : (t296 != t270) = false := bne_eq_false_iff_eq.mpr c90
            clear c90
            have H' := Aside0.mk H
            clear H
            go_wp2_with (first | ((with_reducible refine gate_callee (f := 12) rfl ?_); refine goesL_ (some 313) rfl rfl Tryd.func12 (by kernel_rfl) rfl #[.int .i64 t271, .int .i64 t270] rfl (by (try simp only [List.map_toArray, List.map_cons, List.map_nil]); first | done | rfl | (simp only [List.length_drop, List.length_take]; rfl)) ?_; (with_reducible refine (impl_PlainSum.calls t271 t270 t294 true _ A85.out).mono ?_); rintro e w' ⟨rfl, ⟨nd, rfl⟩⟩; refine ⟨_, rfl, ?_⟩) | ((with_reducible refine gate_callee (f := 12) rfl ?_); refine goesL_ (some 319) rfl rfl Tryd.func12 (by kernel_rfl) rfl #[.int .i64 t272, .int .i64 t271] rfl (by (try simp only [List.map_toArray, List.map_cons, List.map_nil]); first | done | rfl | (simp only [List.length_drop, List.length_take]; rfl)) ?_; (with_reducible refine (impl_PlainSum.calls t272 t271 t296 true _ A86.out).mono ?_); rintro e w' ⟨rfl, ⟨nd, rfl⟩⟩; refine ⟨_, rfl, ?_⟩))
            refine Met.intro (hJ_ _ _ ?mg_ ?rel)
            case mg_ => kernel_rfl
            case rel => exact ⟨_, H', ⟨by have := HJ11.out; have := HJ21.out; have := HJ65.out; first | omega | exact Nat.le_refl _⟩, ⟨by repeat (first | (with_reducible first | exact HB.out | apply below_alloc | apply pw_below_drewN | apply below_drew1) | exact HB.out)⟩⟩
          · rw [if_neg c90] at H
            have c90b0 : (t296 == t270) = false := beq_eq_false_iff_ne.mpr c90
            have c90b1 : (t296 != t270) = true := bne_iff_ne.mpr c90
            obtain rfl := Option.some.inj H
            go_wp2_with (first | ((with_reducible refine gate_callee (f := 12) rfl ?_); refine goesL_ (some 313) rfl rfl Tryd.func12 (by kernel_rfl) rfl #[.int .i64 t271, .int .i64 t270] rfl (by (try simp only [List.map_toArray, List.map_cons, List.map_nil]); first | done | rfl | (simp only [List.length_drop, List.length_take]; rfl)) ?_; (with_reducible refine (impl_PlainSum.calls t271 t270 t294 true _ A85.out).mono ?_); rintro e w' ⟨rfl, ⟨nd, rfl⟩⟩; refine ⟨_, rfl, ?_⟩) | ((with_reducible refine gate_callee (f := 12) rfl ?_); refine goesL_ (some 319) rfl rfl Tryd.func12 (by kernel_rfl) rfl #[.int .i64 t272, .int .i64 t271] rfl (by (try simp only [List.map_toArray, List.map_cons, List.map_nil]); first | done | rfl | (simp only [List.length_drop, List.length_take]; rfl)) ?_; (with_reducible refine (impl_PlainSum.calls t272 t271 t296 true _ A86.out).mono ?_); rintro e w' ⟨rfl, ⟨nd, rfl⟩⟩; refine ⟨_, rfl, ?_⟩))
            go_ret
            exact ⟨by first | rfl | (simp [errW_none, errW_some] <;> rfl) | (simp [*, errW_none, errW_some] <;> rfl), by repeat (first | (with_reducible first | exact HB.out | apply below_alloc | apply pw_below_drewN | apply below_drew1) | exact HB.out)⟩
        · replace c89 := Bool.eq_false_iff.mpr c89
          subst c89
          have H1 : (laws_FnNumbersReflect.j5 kj65 t276 t277 t278 t279 t280 t283 t284 t285 t286 t289 t290 t291) = some r := by rw [if_neg (show ¬ (false = true) by decide)] at H; exact H
          clear H
          have H := H1
          clear H1
          have H' := Aside0.mk H
          clear H
          go_wp2_with (first | ((with_reducible refine gate_callee (f := 12) rfl ?_); refine goesL_ (some 313) rfl rfl Tryd.func12 (by kernel_rfl) rfl #[.int .i64 t271, .int .i64 t270] rfl (by (try simp only [List.map_toArray, List.map_cons, List.map_nil]); first | done | rfl | (simp only [List.length_drop, List.length_take]; rfl)) ?_; (with_reducible refine (impl_PlainSum.calls t271 t270 t294 true _ A85.out).mono ?_); rintro e w' ⟨rfl, ⟨nd, rfl⟩⟩; refine ⟨_, rfl, ?_⟩) | ((with_reducible refine gate_callee (f := 12) rfl ?_); refine goesL_ (some 319) rfl rfl Tryd.func12 (by kernel_rfl) rfl #[.int .i64 t272, .int .i64 t271] rfl (by (try simp only [List.map_toArray, List.map_cons, List.map_nil]); first | done | rfl | (simp only [List.length_drop, List.length_take]; rfl)) ?_; (with_reducible refine (impl_PlainSum.calls t272 t271 t296 false _ A86.out).mono ?_); rintro e w' ⟨rfl, ⟨nd, rfl⟩⟩; refine ⟨_, rfl, ?_⟩))
          refine Met.intro (hJ_ _ _ ?mg_ ?rel)
          case mg_ => kernel_rfl
          case rel => exact ⟨_, H', ⟨by have := HJ11.out; have := HJ21.out; have := HJ65.out; first | omega | exact Nat.le_refl _⟩, ⟨by repeat (first | (with_reducible first | exact HB.out | apply below_alloc | apply pw_below_drewN | apply below_drew1) | exact HB.out)⟩⟩
      · rw [if_neg c88] at H
        have c88b0 : (t294 == t272) = false := beq_eq_false_iff_ne.mpr c88
        have c88b1 : (t294 != t272) = true := bne_iff_ne.mpr c88
        (first | rw [c88b0] | (simp only [i64_w, i32_w]; rw [c88b0]) | skip)
        obtain rfl := Option.some.inj H
        go_wp2_with (first | ((with_reducible refine gate_callee (f := 12) rfl ?_); refine goesL_ (some 313) rfl rfl Tryd.func12 (by kernel_rfl) rfl #[.int .i64 t271, .int .i64 t270] rfl (by (try simp only [List.map_toArray, List.map_cons, List.map_nil]); first | done | rfl | (simp only [List.length_drop, List.length_take]; rfl)) ?_; (with_reducible refine (impl_PlainSum.calls t271 t270 t294 true _ A85.out).mono ?_); rintro e w' ⟨rfl, ⟨nd, rfl⟩⟩; refine ⟨_, rfl, ?_⟩) | ((with_reducible refine gate_callee (f := 12) rfl ?_); refine goesL_ (some 319) rfl rfl Tryd.func12 (by kernel_rfl) rfl #[.int .i64 t272, .int .i64 t271] rfl (by (try simp only [List.map_toArray, List.map_cons, List.map_nil]); first | done | rfl | (simp only [List.length_drop, List.length_take]; rfl)) ?_; (with_reducible refine (impl_PlainSum.calls t272 t271 t296 t297 _ A86.out).mono ?_); rintro e w' ⟨rfl, ⟨nd, rfl⟩⟩; refine ⟨_, rfl, ?_⟩))
        go_ret
        exact ⟨by first | rfl | (simp [errW_none, errW_some] <;> rfl) | (simp [*, errW_none, errW_some] <;> rfl), by repeat (first | (with_reducible first | exact HB.out | apply below_alloc | apply pw_below_drewN | apply below_drew1) | exact HB.out)⟩
    · replace c87 := Bool.eq_false_iff.mpr c87
      subst c87
      have H1 : (some false) = some r := by rw [if_neg (show ¬ (false = true) by decide)] at H; exact H
      clear H
      have H := H1
      clear H1
      obtain rfl := Option.some.inj H
      go_wp2_with (first | ((with_reducible refine gate_callee (f := 12) rfl ?_); refine goesL_ (some 313) rfl rfl Tryd.func12 (by kernel_rfl) rfl #[.int .i64 t271, .int .i64 t270] rfl (by (try simp only [List.map_toArray, List.map_cons, List.map_nil]); first | done | rfl | (simp only [List.length_drop, List.length_take]; rfl)) ?_; (with_reducible refine (impl_PlainSum.calls t271 t270 t294 false _ A85.out).mono ?_); rintro e w' ⟨rfl, ⟨nd, rfl⟩⟩; refine ⟨_, rfl, ?_⟩) | ((with_reducible refine gate_callee (f := 12) rfl ?_); refine goesL_ (some 319) rfl rfl Tryd.func12 (by kernel_rfl) rfl #[.int .i64 t272, .int .i64 t271] rfl (by (try simp only [List.map_toArray, List.map_cons, List.map_nil]); first | done | rfl | (simp only [List.length_drop, List.length_take]; rfl)) ?_; (with_reducible refine (impl_PlainSum.calls t272 t271 t296 t297 _ A86.out).mono ?_); rintro e w' ⟨rfl, ⟨nd, rfl⟩⟩; refine ⟨_, rfl, ?_⟩))
      go_ret
      exact ⟨by first | rfl | (simp [errW_none, errW_some] <;> rfl) | (simp [*, errW_none, errW_some] <;> rfl), by repeat (first | (with_reducible first | exact HB.out | apply below_alloc | apply pw_below_drewN | apply below_drew1) | exact HB.out)⟩
  · replace c84 := Bool.eq_false_iff.mpr c84
    subst c84
    have H1 : (laws_FnNumbersReflect.j5 kj65 t276 t277 t278 t279 t280 t283 t284 t285 t286 t289 t290 t291) = some r := by rw [if_neg (show ¬ (false = true) by decide)] at H; exact H
    clear H
    have H := H1
    clear H1
    have H' := Aside0.mk H
    clear H
    go_wp2
    refine Met.intro (hJ_ _ _ ?mg_ ?rel)
    case mg_ => kernel_rfl
    case rel => exact ⟨_, H', ⟨by have := HJ11.out; have := HJ21.out; have := HJ65.out; first | omega | exact Nat.le_refl _⟩, ⟨by repeat (first | (with_reducible first | exact HB.out | apply below_alloc | apply pw_below_drewN | apply below_drew1) | exact HB.out)⟩⟩

set_option maxHeartbeats 8000000 in
set_option maxRecDepth 100000 in
def laws_FnNumbersReflect.c8 : PSigma fun P0_ : Prop => PSigma fun P1_ : Prop => Hole P0_ → Hole P1_ → laws_FnNumbersReflect.c6.2.1 := by
  refine' ⟨_, _, fun HP0_ HP1_ => _⟩
  rotate_left 2
  intro k A0 c0 l0 A1 c1 l1 r w HR0 HC0 HR1 HC1 A3 t247 A5 t248 t249 A6 t250 t251 A7 t252 t253 A8 t254 t255 A9 t256 t257 A10 t258 t259 A11 _ _ _ w13 _ _ _ _ _ _ _ _ _ _ kj11 HJ11 _ _ kj21 HJ21 t270 t271 A54 t272 t273 A55 t274 t275 A56 t276 t277 t278 A57 t279 t280 A58 t281 t282 A59 t283 t284 A60 t285 t286 A61 t287 t288 A62 t289 A63 t290 t291 A64 t292 t293 A65 w67 _ _ w68 _ nd w69 w70 w71 w72 w73 w74 _ _ _ HB kj65 HJ65 HC83 _ _ f_ wc hcut
  clear HC83
  try clear c1
  try clear c2
  try clear p2
  try clear c3
  try clear c4
  try clear c5
  try clear c6
  try clear p6
  try clear c7
  try clear c8
  try clear c9
  try clear c10
  try clear c11
  try clear c12
  try clear c13
  try clear c14
  try clear c14b0
  try clear c14b1
  try clear c14b2
  try clear c15
  try clear c15b0
  try clear c15b1
  try clear c16
  try clear c16b0
  try clear c16b1
  try clear c16b2
  try clear c17
  try clear c17b0
  try clear c17b1
  try clear c18
  try clear c18b0
  try clear c18b1
  try clear c18b2
  try clear c19
  try clear c19b0
  try clear c19b1
  try clear c20
  try clear c20b0
  try clear c20b1
  try clear c20b2
  try clear c21
  try clear c22
  try clear c23
  try clear c27
  try clear c28
  try clear c28b0
  try clear c28b1
  try clear c29
  try clear c30
  try clear c31
  try clear c34
  try clear c35
  try clear c35b0
  try clear c35b1
  try clear c37
  try clear c40
  try clear c41
  try clear c42
  try clear c42b0
  try clear c42b1
  try clear c43
  try clear c43b0
  try clear c43b1
  try clear p64
  try clear c75
  try clear c75b0
  try clear c75b1
  try clear c75b2
  try clear c76
  try clear c76b0
  try clear c76b1
  try clear c77
  try clear c77b0
  try clear c77b1
  try clear c77b2
  try clear c78
  try clear c78b0
  try clear c78b1
  try clear c79
  try clear c79b0
  try clear c79b1
  try clear c79b2
  try clear c80
  try clear c80b0
  try clear c80b1
  try clear c81
  try clear c81b0
  try clear c81b1
  try clear c81b2
  try clear c82
  try clear c84
  try clear c87
  try clear c88
  try clear c88b0
  try clear c88b1
  try clear c89
  try clear c90
  try clear c90b0
  try clear c90b1
  try clear p2
  try clear p6
  try clear p64
  obtain ⟨kq, HA, HJ82, HB⟩ := hcut
  cases kq with
  | zero => exact absurd HA.out (by simp [laws_FnNumbersReflect.j5])
  | succ kj82 =>
    have H := HA.out
    clear HA
    simp only [laws_FnNumbersReflect.j5] at H
    have HC91 := Aside0.mk H
    clear H
    go_upto_if 337 with (fail)
    refine wp_cutF [o_,o_,o_,o_,i_,o_,o_,o_,o_,o_,o_,o_,o_,o_,o_,o_,o_,o_,o_,o_,o_,o_,o_,o_,o_,o_,o_,o_,o_,o_,o_,o_,o_,o_,o_,o_,o_,o_,o_,o_,o_,o_,o_,o_,o_,o_,o_,o_,o_,o_,o_,o_,o_,o_,o_,o_,i_,i_,i_,i_,o_,o_,o_,o_,i_,i_,i_,i_,i_,i_,i_,i_,i_,i_,i_,i_,i_,i_,i_,i_,i_,i_,i_,i_,i_,i_,i_,i_,i_,i_,i_,i_,i_,i_,i_,i_,i_,i_,i_,i_,i_,i_,i_,i_,i_,i_,i_,i_,i_,i_,i_,i_,i_,i_,i_,i_,i_,i_,i_,i_,i_,i_,i_,i_,i_,i_,i_,i_,i_,i_,i_,i_,i_,i_,i_,i_,i_,i_,i_,i_,i_,i_,i_,i_,i_,i_,i_,i_,i_,i_,i_,i_,i_,i_,i_,i_,i_,i_,i_,i_,i_,i_,i_,i_,i_,i_,i_,i_,i_,i_,i_,i_,i_,i_,i_,i_,i_,i_,i_,i_,i_,i_,i_,i_,i_,i_,i_,i_,i_,i_,i_,i_,i_,i_,i_,i_,i_,i_,i_,i_,i_,i_,i_,i_,i_,i_,i_,i_,i_,i_,i_,i_,i_,i_,i_,i_,i_,i_,i_,i_,i_,i_,i_,i_,i_,i_,i_,i_,i_,i_,i_,i_,i_,i_,i_,i_,i_,i_,i_,i_,i_,i_,i_,i_,i_,i_,i_,i_,i_,i_,i_,i_,i_,i_,i_,i_,i_,i_,i_,i_,i_,i_,i_,i_,i_,i_,i_,i_,i_,i_,i_,i_,i_,i_,i_,i_,i_,i_,i_,i_,i_,i_,i_,i_,i_,i_,i_,i_,i_,i_,i_,i_,i_,i_,i_,i_,i_,i_,i_,i_,i_,i_,i_,i_,i_,i_,i_,i_,i_,i_,i_,i_,i_,i_,i_,i_,i_,i_,i_,i_,i_,i_,i_,i_,i_,i_,i_,i_,i_,i_,i_,i_,i_,i_,i_,i_,i_,i_,i_,i_,i_,i_,i_,i_,i_,i_,i_,i_,i_,i_,i_,i_,i_,i_,i_,i_,i_,i_,i_,i_,i_,i_,i_,i_,i_,i_,i_,i_,i_,i_,i_,i_,i_,i_,i_,i_,i_,i_,i_,i_,i_,i_,i_,i_,i_,i_,i_,i_,i_,i_,i_,i_,i_,i_,i_,i_,i_,i_,i_,i_,i_,i_,i_,i_,i_,i_] (fun f_ wc => ∃ (kq : Nat), Aside0 (laws_FnNumbersReflect.j8 kq t283 t284 t285 t286 t289 t290 t291 = some r) ∧ Aside0 (kq ≤ kj82) ∧ Aside0 (Below w.heap.size w wc)) ?rest ?first
    case first =>
      intro J_ K_ hJ_ hK_
      repeat revert ‹_›
      intro HP0_ HP1_
      exact HP0_.out
    case rest =>
      intro f_ wc hcut
      dsimp only [maskF] at hcut ⊢
      repeat revert ‹_›
      intro HP0_ HP1_
      exact HP1_.out

set_option maxHeartbeats 8000000 in
set_option maxRecDepth 100000 in
def laws_FnNumbersReflect.c9 : PSigma fun P0_ : Prop => Hole P0_ → laws_FnNumbersReflect.c8.1 := by
  refine' ⟨_, fun HP0_ => _⟩
  rotate_left 1
  intro k A0 c0 l0 A1 c1 l1 r w HR0 HC0 HR1 HC1 A3 t247 A5 t248 t249 A6 t250 t251 A7 t252 t253 A8 t254 t255 A9 t256 t257 A10 t258 t259 A11 _ _ _ w13 _ _ _ _ _ _ _ _ _ _ kj11 HJ11 _ _ kj21 HJ21 t270 t271 A54 t272 t273 A55 t274 t275 A56 t276 t277 t278 A57 t279 t280 A58 t281 t282 A59 t283 t284 A60 t285 t286 A61 t287 t288 A62 t289 A63 t290 t291 A64 t292 t293 A65 w67 _ _ w68 _ nd w69 w70 w71 w72 w73 w74 _ _ _ _ kj65 HJ65 f_ wc HB kj82 HJ82 HC91 _ _ J_ K_ hJ_ hK_
  have H := HC91.out
  clear HC91
  by_cases c92 : t280 = true
  · subst c92
    have H1 : (if t279 < 0 then (laws_FnNumbersReflect.j6 kj82 t276 t277 t278 t279 t283 t284 t285 t286 t289 t290 t291 true) else (laws_FnNumbersReflect.j6 kj82 t276 t277 t278 t279 t283 t284 t285 t286 t289 t290 t291 (decide ((wrap64 (t277 - t276)) < t279)))) = some r := by rw [if_pos rfl] at H; exact H
    clear H
    have H := H1
    clear H1
    have HC93 := Aside0.mk H
    clear H
    go_upto_region 44 with (fail)
    refine wp_cutF [o_,o_,o_,o_,o_,o_,o_,o_,o_,o_,o_,o_,o_,o_,o_,o_,o_,o_,o_,o_,o_,o_,o_,o_,o_,o_,o_,o_,o_,o_,o_,o_,o_,o_,o_,o_,o_,o_,o_,o_,o_,o_,o_,o_,o_,o_,o_,o_,o_,o_,o_,o_,o_,o_,o_,o_,o_,o_,o_,o_,o_,o_,o_,o_,i_,i_,i_,i_,i_,i_,i_,i_,i_,i_,i_,i_,i_,i_,i_,i_,i_,i_,i_,i_,i_,i_,i_,i_,i_,i_,i_,i_,i_,i_,i_,i_,i_,i_,i_,i_,i_,i_,i_,i_,i_,i_,i_,i_,i_,i_,i_,i_,i_,i_,i_,i_,i_,i_,i_,i_,i_,i_,i_,i_,i_,i_,i_,i_,i_,i_,i_,i_,i_,i_,i_,i_,i_,i_,i_,i_,i_,i_,i_,i_,i_,i_,i_,i_,i_,i_,i_,i_,i_,i_,i_,i_,i_,i_,i_,i_,i_,i_,i_,i_,i_,i_,i_,i_,i_,i_,i_,i_,i_,i_,i_,i_,i_,i_,i_,i_,i_,i_,i_,i_,i_,i_,i_,i_,i_,i_,i_,i_,i_,i_,i_,i_,i_,i_,i_,i_,i_,i_,i_,i_,i_,i_,i_,i_,i_,i_,i_,i_,i_,i_,i_,i_,i_,i_,i_,i_,i_,i_,i_,i_,i_,i_,i_,i_,i_,i_,i_,i_,i_,i_,i_,i_,i_,i_,i_,i_,i_,i_,i_,i_,i_,i_,i_,i_,i_,i_,i_,i_,i_,i_,i_,i_,i_,i_,i_,i_,i_,i_,i_,i_,i_,i_,i_,i_,i_,i_,i_,i_,i_,i_,i_,i_,i_,i_,i_,i_,i_,i_,i_,i_,i_,i_,i_,i_,i_,i_,i_,i_,i_,i_,i_,i_,i_,i_,i_,i_,i_,i_,i_,i_,i_,i_,i_,i_,i_,i_,i_,i_,i_,i_,i_,i_,i_,i_,i_,i_,i_,i_,i_,i_,i_,i_,i_,i_,i_,i_,i_,i_,i_,i_,i_,i_,i_,i_,i_,i_,i_,i_,i_,i_,i_,i_,i_,i_,i_,i_,i_,i_,i_,i_,i_,i_,i_,i_,i_,i_,i_,i_,i_,i_,i_,i_,i_,i_,i_,i_,i_,i_,i_,i_,i_,i_,i_,i_,i_,i_,i_,i_,i_,i_,i_,i_,i_,i_,i_,i_,i_,i_,i_,i_,i_,i_,i_,i_,i_,i_,i_,i_,i_,i_,i_,i_] (fun f_ wc => ∃ (kq : Nat) (x346_92 : Bool), (f_ 346) = .bool x346_92 ∧ Aside0 (laws_FnNumbersReflect.j6 kq t276 t277 t278 t279 t283 t284 t285 t286 t289 t290 t291 x346_92 = some r) ∧ Aside0 (kq ≤ kj82) ∧ Aside0 (Below w.heap.size w wc)) ?rest ?first
    case first =>
      intro J_ K_ hJ_ hK_
      have H := HC93.out
      clear HC93
      by_cases c94 : t279 < 0
      · rw [if_pos c94] at H
        have c94b0 : decide (t279 < 0) = true := decide_eq_true c94
        clear c94
        (first | rw [c94b0] | (simp only [i64_w, i32_w]; rw [c94b0]) | skip)
        have H' := Aside0.mk H
        clear H
        go_wp2
        refine Met.intro (hJ_ _ _ ?mg_ ?rel)
        case mg_ => kernel_rfl
        case rel => exact ⟨_, (true), (by first | rfl | ((conv => lhs; whnf); first | rfl | (simp; done) | (simp [*]; done))), H', ⟨by have := HJ11.out; have := HJ21.out; have := HJ65.out; have := HJ82.out; first | omega | exact Nat.le_refl _⟩, ⟨by repeat (first | (with_reducible first | exact HB.out | apply below_alloc | apply pw_below_drewN | apply below_drew1) | exact HB.out)⟩⟩
      · rw [if_neg c94] at H
        have c94b0 : decide (t279 < 0) = false := decide_eq_false c94
        clear c94
        (first | rw [c94b0] | (simp only [i64_w, i32_w]; rw [c94b0]) | skip)
        have H' := Aside0.mk H
        clear H
        go_wp2
        refine Met.intro (hJ_ _ _ ?mg_ ?rel)
        case mg_ => kernel_rfl
        case rel => exact ⟨_, (decide ((wrap64 (t277 - t276)) < t279)), (by first | rfl | ((conv => lhs; whnf); first | rfl | (simp; done) | (simp [*]; done))), H', ⟨by have := HJ11.out; have := HJ21.out; have := HJ65.out; have := HJ82.out; first | omega | exact Nat.le_refl _⟩, ⟨by repeat (first | (with_reducible first | exact HB.out | apply below_alloc | apply pw_below_drewN | apply below_drew1) | exact HB.out)⟩⟩
    case rest =>
      intro f_ wc hcut
      dsimp only [maskF] at hcut ⊢
      generalize f_ 346 = u346 at hcut ⊢
      repeat revert ‹_›
      intro HP0_
      exact HP0_.out
  · replace c92 := Bool.eq_false_iff.mpr c92
    subst c92
    have H1 : (laws_FnNumbersReflect.j8 kj82 t283 t284 t285 t286 t289 t290 t291) = some r := by rw [if_neg (show ¬ (false = true) by decide)] at H; exact H
    clear H
    have H := H1
    clear H1
    have H' := Aside0.mk H
    clear H
    go_wp2
    refine Met.intro (hJ_ _ _ ?mg_ ?rel)
    case mg_ => kernel_rfl
    case rel => exact ⟨_, H', ⟨by have := HJ11.out; have := HJ21.out; have := HJ65.out; have := HJ82.out; first | omega | exact Nat.le_refl _⟩, ⟨by repeat (first | (with_reducible first | exact HB.out | apply below_alloc | apply pw_below_drewN | apply below_drew1) | exact HB.out)⟩⟩

set_option maxHeartbeats 8000000 in
set_option maxRecDepth 100000 in
def laws_FnNumbersReflect.c10 : PSigma fun P0_ : Prop => Hole P0_ → laws_FnNumbersReflect.c9.1 := by
  refine' ⟨_, fun HP0_ => _⟩
  rotate_left 1
  intro k A0 c0 l0 A1 c1 l1 r w HR0 HC0 HR1 HC1 A3 t247 A5 t248 t249 A6 t250 t251 A7 t252 t253 A8 t254 t255 A9 t256 t257 A10 t258 t259 A11 _ _ _ w13 _ _ _ _ _ _ _ _ _ _ kj11 HJ11 _ _ kj21 HJ21 t270 t271 A54 t272 t273 A55 t274 t275 A56 t276 t277 t278 A57 t279 t281 t282 A59 t283 t284 A60 t285 t286 A61 t287 t288 A62 t289 A63 t290 t291 A64 t292 t293 A65 w67 _ _ w68 _ nd w69 w70 w71 w72 w73 w74 _ _ _ _ kj65 HJ65 _ _ HB kj82 HJ82 _ _ J_ K_ hK_ A58 hJ_ HC93 _ _ _ _ f_ wc u346 hcut
  clear HC93
  try clear c1
  try clear c2
  try clear p2
  try clear c3
  try clear c4
  try clear c5
  try clear c6
  try clear p6
  try clear c7
  try clear c8
  try clear c9
  try clear c10
  try clear c11
  try clear c12
  try clear c13
  try clear c14
  try clear c14b0
  try clear c14b1
  try clear c14b2
  try clear c15
  try clear c15b0
  try clear c15b1
  try clear c16
  try clear c16b0
  try clear c16b1
  try clear c16b2
  try clear c17
  try clear c17b0
  try clear c17b1
  try clear c18
  try clear c18b0
  try clear c18b1
  try clear c18b2
  try clear c19
  try clear c19b0
  try clear c19b1
  try clear c20
  try clear c20b0
  try clear c20b1
  try clear c20b2
  try clear c21
  try clear c22
  try clear c23
  try clear c27
  try clear c28
  try clear c28b0
  try clear c28b1
  try clear c29
  try clear c30
  try clear c31
  try clear c34
  try clear c35
  try clear c35b0
  try clear c35b1
  try clear c37
  try clear c40
  try clear c41
  try clear c42
  try clear c42b0
  try clear c42b1
  try clear c43
  try clear c43b0
  try clear c43b1
  try clear p64
  try clear c75
  try clear c75b0
  try clear c75b1
  try clear c75b2
  try clear c76
  try clear c76b0
  try clear c76b1
  try clear c77
  try clear c77b0
  try clear c77b1
  try clear c77b2
  try clear c78
  try clear c78b0
  try clear c78b1
  try clear c79
  try clear c79b0
  try clear c79b1
  try clear c79b2
  try clear c80
  try clear c80b0
  try clear c80b1
  try clear c81
  try clear c81b0
  try clear c81b1
  try clear c81b2
  try clear c82
  try clear c84
  try clear c87
  try clear c88
  try clear c88b0
  try clear c88b1
  try clear c89
  try clear c90
  try clear c90b0
  try clear c90b1
  try clear c92
  try clear c94
  try clear c94b0
  try clear p2
  try clear p6
  try clear p64
  obtain ⟨kq, x346_92, rfl, HA, HJ92, HB⟩ := hcut
  cases kq with
  | zero => exact absurd HA.out (by simp [laws_FnNumbersReflect.j6])
  | succ kj92 =>
    have H := HA.out
    clear HA
    simp only [laws_FnNumbersReflect.j6] at H
    by_cases c95 : x346_92 = true
    · subst c95
      have H1 : (some false) = some r := by rw [if_pos rfl] at H; exact H
      clear H
      have H := H1
      clear H1
      obtain rfl := Option.some.inj H
      go_wp2
      go_ret
      exact ⟨by first | rfl | (simp [errW_none, errW_some] <;> rfl) | (simp [*, errW_none, errW_some] <;> rfl), by repeat (first | (with_reducible first | exact HB.out | apply below_alloc | apply pw_below_drewN | apply below_drew1) | exact HB.out)⟩
    · replace c95 := Bool.eq_false_iff.mpr c95
      subst c95
      have H1 : (if (wrap64 (t277 - t276)) ≤ 64 then (laws_FnNumbersReflect.l0 kj92 t277 t278 t279 t283 t284 t285 t286 t289 t290 t291 0 t276) else (laws_FnNumbersReflect.j8 kj92 t283 t284 t285 t286 t289 t290 t291)) = some r := by rw [if_neg (show ¬ (false = true) by decide)] at H; exact H
      clear H
      have H := H1
      clear H1
      by_cases c96 : (wrap64 (t277 - t276)) ≤ 64
      · rw [if_pos c96] at H
        have c96b0 : decide ((wrap64 (t277 - t276)) ≤ 64) = true := decide_eq_true c96
        clear c96
        have H' := Aside0.mk H
        clear H
        go_wp2
        go_loopg [56, 57] kj92 (fun kq v56 v57 w' => ∃ (x56_6 : Int) (x57_6 : Int), v56 = .int .i64 x56_6 ∧ v57 = .int .i64 x57_6 ∧ Aside0 (laws_FnNumbersReflect.l0 kq t277 t278 t279 t283 t284 t285 t286 t289 t290 t291 x56_6 x57_6 = some r) ∧ Aside0 (kq ≤ kj92) ∧ Aside0 (Below w.heap.size w w'))
        case atStart => exact ⟨(0), (t276), (by first | rfl | (simp; done) | (simp [*]; done)), (by first | rfl | (simp; done) | (simp [*]; done)), H', ⟨Nat.le_refl _⟩, ⟨by repeat (first | (with_reducible first | exact HB.out | apply below_alloc | apply pw_below_drewN | apply below_drew1) | exact HB.out)⟩⟩
        case round =>
          repeat revert ‹_›
          intro HP0_
          exact HP0_.out
      · rw [if_neg c96] at H
        have c96b0 : decide ((wrap64 (t277 - t276)) ≤ 64) = false := decide_eq_false c96
        clear c96
        have H' := Aside0.mk H
        clear H
        go_wp2
        refine Met.intro (hJ_ _ _ ?mg_ ?rel)
        case mg_ => kernel_rfl
        case rel => exact ⟨_, H', ⟨by have := HJ11.out; have := HJ21.out; have := HJ65.out; have := HJ82.out; have := HJ92.out; first | omega | exact Nat.le_refl _⟩, ⟨by repeat (first | (with_reducible first | exact HB.out | apply below_alloc | apply pw_below_drewN | apply below_drew1) | exact HB.out)⟩⟩

set_option maxHeartbeats 8000000 in
set_option maxRecDepth 100000 in
theorem laws_FnNumbersReflect.c11 : laws_FnNumbersReflect.c10.1 := by
  intro k A0 c0 l0 A1 c1 l1 r w HR0 HC0 HR1 HC1 A3 t247 A5 t248 t249 A6 t250 t251 A7 t252 t253 A8 t254 t255 A9 t256 t257 A10 t258 t259 A11 _ _ _ w13 _ _ _ _ _ _ _ _ _ _ kj11 HJ11 _ _ kj21 HJ21 t270 t271 A54 t272 t273 A55 t274 t275 A56 t276 t277 t278 A57 t279 t281 t282 A59 t283 t284 A60 t285 t286 A61 t287 t288 A62 t289 A63 t290 t291 A64 t292 t293 A65 w67 _ _ w68 _ nd w69 w70 w71 w72 w73 w74 _ _ _ _ kj65 HJ65 _ _ _ kj82 HJ82 _ _ J_ K_ hK_ A58 hJ_ f_ wc HB kj92 HJ92 c96b0 H' _ _ gk wr u4 u56 u57 u58 u59 u352 u353 u354 u355 u356 u357 u358 u359 u360 u361 u362 u363 u364 u365 u366 u367 u368 hrel _ _ _ _
  clear H'
  try clear c1
  try clear c2
  try clear p2
  try clear c3
  try clear c4
  try clear c5
  try clear c6
  try clear p6
  try clear c7
  try clear c8
  try clear c9
  try clear c10
  try clear c11
  try clear c12
  try clear c13
  try clear c14
  try clear c14b0
  try clear c14b1
  try clear c14b2
  try clear c15
  try clear c15b0
  try clear c15b1
  try clear c16
  try clear c16b0
  try clear c16b1
  try clear c16b2
  try clear c17
  try clear c17b0
  try clear c17b1
  try clear c18
  try clear c18b0
  try clear c18b1
  try clear c18b2
  try clear c19
  try clear c19b0
  try clear c19b1
  try clear c20
  try clear c20b0
  try clear c20b1
  try clear c20b2
  try clear c21
  try clear c22
  try clear c23
  try clear c27
  try clear c28
  try clear c28b0
  try clear c28b1
  try clear c29
  try clear c30
  try clear c31
  try clear c34
  try clear c35
  try clear c35b0
  try clear c35b1
  try clear c37
  try clear c40
  try clear c41
  try clear c42
  try clear c42b0
  try clear c42b1
  try clear c43
  try clear c43b0
  try clear c43b1
  try clear p64
  try clear c75
  try clear c75b0
  try clear c75b1
  try clear c75b2
  try clear c76
  try clear c76b0
  try clear c76b1
  try clear c77
  try clear c77b0
  try clear c77b1
  try clear c77b2
  try clear c78
  try clear c78b0
  try clear c78b1
  try clear c79
  try clear c79b0
  try clear c79b1
  try clear c79b2
  try clear c80
  try clear c80b0
  try clear c80b1
  try clear c81
  try clear c81b0
  try clear c81b1
  try clear c81b2
  try clear c82
  try clear c84
  try clear c87
  try clear c88
  try clear c88b0
  try clear c88b1
  try clear c89
  try clear c90
  try clear c90b0
  try clear c90b1
  try clear c92
  try clear c94
  try clear c94b0
  try clear c95
  try clear c96
  try clear c96b0
  try clear p2
  try clear p6
  try clear p64
  obtain ⟨x56_6, x57_6, rfl, rfl, HA, HK6, HB⟩ := hrel
  cases gk with
  | zero => exact absurd HA.out (by simp [laws_FnNumbersReflect.l0])
  | succ k6 =>
    have H := HA.out
    clear HA
    simp only [laws_FnNumbersReflect.l0] at H
    by_cases c97 : x57_6 < t277
    · rw [if_pos c97] at H
      have c97b0 : decide (x57_6 < t277) = true := decide_eq_true c97
      clear c97
      replace H := Option.bind_eq_some_iff.mp H
      obtain ⟨⟨t298, t299⟩, A980, H⟩ := H
      replace H : (if t299 = true then (if t298 = t278 then (laws_FnNumbersReflect.l0 k6 t277 t278 t279 t283 t284 t285 t286 t289 t290 t291 (wrap64 (x56_6 + 1)) (wrap64 (x57_6 + 1))) else (laws_FnNumbersReflect.l0 k6 t277 t278 t279 t283 t284 t285 t286 t289 t290 t291 x56_6 (wrap64 (x57_6 + 1)))) else (some false)) = some r := H
      have A98 := Aside0.mk A980
      clear A980
      by_cases c99 : t299 = true
      · subst c99
        have H1 : (if t298 = t278 then (laws_FnNumbersReflect.l0 k6 t277 t278 t279 t283 t284 t285 t286 t289 t290 t291 (wrap64 (x56_6 + 1)) (wrap64 (x57_6 + 1))) else (laws_FnNumbersReflect.l0 k6 t277 t278 t279 t283 t284 t285 t286 t289 t290 t291 x56_6 (wrap64 (x57_6 + 1)))) = some r := by rw [if_pos rfl] at H; exact H
        clear H
        have H := H1
        clear H1
        by_cases c100 : t298 = t278
        · rw [if_pos c100] at H
          have c100b0 : (t298 == t278) = true := beq_iff_eq.mpr c100
          have c100b1 : (t298 != t278) = false := bne_eq_false_iff_eq.mpr c100
          clear c100
          have H' := Aside0.mk H
          clear H
          go_wp2_with (first | ((with_reducible refine gate_callee (f := 10) rfl ?_); refine goesL_ (some 359) rfl rfl Tryd.func10 (by kernel_rfl) rfl #[.int .i64 x57_6] rfl (by (try simp only [List.map_toArray, List.map_cons, List.map_nil]); first | done | rfl | (simp only [List.length_drop, List.length_take]; rfl)) ?_; (with_reducible refine (impl_ChangedDigit.calls k6 x57_6 t298 true _ A98.out).mono ?_); rintro e w' ⟨rfl, ⟨nd, rfl⟩⟩; refine ⟨_, rfl, ?_⟩))
          go_roundg k6
          case measure => have := HJ11.out; have := HJ21.out; have := HJ65.out; have := HJ82.out; have := HJ92.out; have := HK6.out; omega
          case rel => exact ⟨(wrap64 (x56_6 + 1)), (wrap64 (x57_6 + 1)), (by first | rfl | ((conv => lhs; whnf); first | rfl | (simp; done) | (simp [*]; done))), (by first | rfl | ((conv => lhs; whnf); first | rfl | (simp; done) | (simp [*]; done))), H', ⟨by have := HJ11.out; have := HJ21.out; have := HJ65.out; have := HJ82.out; have := HJ92.out; have := HK6.out; omega⟩, ⟨by repeat (first | (with_reducible first | exact HB.out | apply below_alloc | apply pw_below_drewN | apply below_drew1) | exact HB.out)⟩⟩
        · rw [if_neg c100] at H
          have c100b0 : (t298 == t278) = false := beq_eq_false_iff_ne.mpr c100
          have c100b1 : (t298 != t278) = true := bne_iff_ne.mpr c100
          have H' := Aside0.mk H
          clear H
          go_wp2_with (first | ((with_reducible refine gate_callee (f := 10) rfl ?_); refine goesL_ (some 359) rfl rfl Tryd.func10 (by kernel_rfl) rfl #[.int .i64 x57_6] rfl (by (try simp only [List.map_toArray, List.map_cons, List.map_nil]); first | done | rfl | (simp only [List.length_drop, List.length_take]; rfl)) ?_; (with_reducible refine (impl_ChangedDigit.calls k6 x57_6 t298 true _ A98.out).mono ?_); rintro e w' ⟨rfl, ⟨nd, rfl⟩⟩; refine ⟨_, rfl, ?_⟩))
          go_roundg k6
          case measure => have := HJ11.out; have := HJ21.out; have := HJ65.out; have := HJ82.out; have := HJ92.out; have := HK6.out; omega
          case rel => exact ⟨(x56_6), (wrap64 (x57_6 + 1)), (by first | rfl | ((conv => lhs; whnf); first | rfl | (simp; done) | (simp [*]; done))), (by first | rfl | ((conv => lhs; whnf); first | rfl | (simp; done) | (simp [*]; done))), H', ⟨by have := HJ11.out; have := HJ21.out; have := HJ65.out; have := HJ82.out; have := HJ92.out; have := HK6.out; omega⟩, ⟨by repeat (first | (with_reducible first | exact HB.out | apply below_alloc | apply pw_below_drewN | apply below_drew1) | exact HB.out)⟩⟩
      · replace c99 := Bool.eq_false_iff.mpr c99
        subst c99
        have H1 : (some false) = some r := by rw [if_neg (show ¬ (false = true) by decide)] at H; exact H
        clear H
        have H := H1
        clear H1
        obtain rfl := Option.some.inj H
        go_wp2_with (first | ((with_reducible refine gate_callee (f := 10) rfl ?_); refine goesL_ (some 359) rfl rfl Tryd.func10 (by kernel_rfl) rfl #[.int .i64 x57_6] rfl (by (try simp only [List.map_toArray, List.map_cons, List.map_nil]); first | done | rfl | (simp only [List.length_drop, List.length_take]; rfl)) ?_; (with_reducible refine (impl_ChangedDigit.calls k6 x57_6 t298 false _ A98.out).mono ?_); rintro e w' ⟨rfl, ⟨nd, rfl⟩⟩; refine ⟨_, rfl, ?_⟩))
        go_ret
        exact ⟨by first | rfl | (simp [errW_none, errW_some] <;> rfl) | (simp [*, errW_none, errW_some] <;> rfl), by repeat (first | (with_reducible first | exact HB.out | apply below_alloc | apply pw_below_drewN | apply below_drew1) | exact HB.out)⟩
    · rw [if_neg c97] at H
      have c97b0 : decide (x57_6 < t277) = false := decide_eq_false c97
      clear c97
      by_cases c101 : x56_6 = t279
      · rw [if_pos c101] at H
        have c101b0 : (x56_6 == t279) = true := beq_iff_eq.mpr c101
        have c101b1 : (x56_6 != t279) = false := bne_eq_false_iff_eq.mpr c101
        clear c101
        have H' := Aside0.mk H
        clear H
        go_wp2
        refine Met.intro (hJ_ _ _ ?mg_ ?rel)
        case mg_ => kernel_rfl
        case rel => exact ⟨_, H', ⟨by have := HJ11.out; have := HJ21.out; have := HJ65.out; have := HJ82.out; have := HJ92.out; have := HK6.out; first | omega | exact Nat.le_refl _⟩, ⟨by repeat (first | (with_reducible first | exact HB.out | apply below_alloc | apply pw_below_drewN | apply below_drew1) | exact HB.out)⟩⟩
      · rw [if_neg c101] at H
        have c101b0 : (x56_6 == t279) = false := beq_eq_false_iff_ne.mpr c101
        have c101b1 : (x56_6 != t279) = true := bne_iff_ne.mpr c101
        obtain rfl := Option.some.inj H
        go_wp2
        go_ret
        exact ⟨by first | rfl | (simp [errW_none, errW_some] <;> rfl) | (simp [*, errW_none, errW_some] <;> rfl), by repeat (first | (with_reducible first | exact HB.out | apply below_alloc | apply pw_below_drewN | apply below_drew1) | exact HB.out)⟩

set_option maxHeartbeats 8000000 in
set_option maxRecDepth 100000 in
def laws_FnNumbersReflect.c12 : PSigma fun P0_ : Prop => Hole P0_ → laws_FnNumbersReflect.c8.2.1 := by
  refine' ⟨_, fun HP0_ => _⟩
  rotate_left 1
  intro k A0 c0 l0 A1 c1 l1 r w HR0 HC0 HR1 HC1 A3 t247 A5 t248 t249 A6 t250 t251 A7 t252 t253 A8 t254 t255 A9 t256 t257 A10 t258 t259 A11 _ _ _ w13 _ _ _ _ _ _ _ _ _ _ kj11 HJ11 _ _ kj21 HJ21 t270 t271 A54 t272 t273 A55 t274 t275 A56 t276 t277 t278 A57 t279 t280 A58 t281 t282 A59 t283 t284 A60 t285 t286 A61 t287 t288 A62 t289 A63 t290 t291 A64 t292 t293 A65 w67 _ _ w68 _ nd w69 w70 w71 w72 w73 w74 _ _ _ _ kj65 HJ65 _ _ HB kj82 HJ82 HC91 _ _ f_ wc hcut
  clear HC91
  try clear c1
  try clear c2
  try clear p2
  try clear c3
  try clear c4
  try clear c5
  try clear c6
  try clear p6
  try clear c7
  try clear c8
  try clear c9
  try clear c10
  try clear c11
  try clear c12
  try clear c13
  try clear c14
  try clear c14b0
  try clear c14b1
  try clear c14b2
  try clear c15
  try clear c15b0
  try clear c15b1
  try clear c16
  try clear c16b0
  try clear c16b1
  try clear c16b2
  try clear c17
  try clear c17b0
  try clear c17b1
  try clear c18
  try clear c18b0
  try clear c18b1
  try clear c18b2
  try clear c19
  try clear c19b0
  try clear c19b1
  try clear c20
  try clear c20b0
  try clear c20b1
  try clear c20b2
  try clear c21
  try clear c22
  try clear c23
  try clear c27
  try clear c28
  try clear c28b0
  try clear c28b1
  try clear c29
  try clear c30
  try clear c31
  try clear c34
  try clear c35
  try clear c35b0
  try clear c35b1
  try clear c37
  try clear c40
  try clear c41
  try clear c42
  try clear c42b0
  try clear c42b1
  try clear c43
  try clear c43b0
  try clear c43b1
  try clear p64
  try clear c75
  try clear c75b0
  try clear c75b1
  try clear c75b2
  try clear c76
  try clear c76b0
  try clear c76b1
  try clear c77
  try clear c77b0
  try clear c77b1
  try clear c77b2
  try clear c78
  try clear c78b0
  try clear c78b1
  try clear c79
  try clear c79b0
  try clear c79b1
  try clear c79b2
  try clear c80
  try clear c80b0
  try clear c80b1
  try clear c81
  try clear c81b0
  try clear c81b1
  try clear c81b2
  try clear c82
  try clear c84
  try clear c87
  try clear c88
  try clear c88b0
  try clear c88b1
  try clear c89
  try clear c90
  try clear c90b0
  try clear c90b1
  try clear c92
  try clear c94
  try clear c94b0
  try clear c95
  try clear c96
  try clear c96b0
  try clear c97
  try clear c97b0
  try clear c99
  try clear c100
  try clear c100b0
  try clear c100b1
  try clear c101
  try clear c101b0
  try clear c101b1
  try clear p2
  try clear p6
  try clear p64
  obtain ⟨kq, HA, HJ90, HB⟩ := hcut
  cases kq with
  | zero => exact absurd HA.out (by simp [laws_FnNumbersReflect.j8])
  | succ kj90 =>
    have H := HA.out
    clear HA
    simp only [laws_FnNumbersReflect.j8] at H
    by_cases c102 : t286 = true
    · subst c102
      have H1 : ((impl_RankOfText.f kj90 t285).bind fun bt300 => (if (t285.size : Int) = t284 then (if bt300.2 = true then (laws_FnNumbersReflect.j9 kj90 t289 t290 t291 (bt300.1 != t283)) else (laws_FnNumbersReflect.j9 kj90 t289 t290 t291 true)) else (laws_FnNumbersReflect.j9 kj90 t289 t290 t291 true))) = some r := by rw [if_pos rfl] at H; exact H
      clear H
      have H := H1
      clear H1
      replace H := Option.bind_eq_some_iff.mp H
      obtain ⟨⟨t300, t301⟩, A1030, H⟩ := H
      replace H : (if (t285.size : Int) = t284 then (if t301 = true then (laws_FnNumbersReflect.j9 kj90 t289 t290 t291 (t300 != t283)) else (laws_FnNumbersReflect.j9 kj90 t289 t290 t291 true)) else (laws_FnNumbersReflect.j9 kj90 t289 t290 t291 true)) = some r := H
      have A103 := Aside0.mk A1030
      clear A1030
      have HC104 := Aside0.mk H
      clear H
      go_upto_region 60 with (first | ((with_reducible refine gate_callee (f := 14) rfl ?_); refine goesL_ (some 375) rfl rfl Tryd.func14 (by kernel_rfl) rfl #[.string t285] rfl (by (try simp only [List.map_toArray, List.map_cons, List.map_nil]); first | done | rfl | (simp only [List.length_drop, List.length_take]; rfl)) ?_; (with_reducible refine (impl_RankOfText.calls kj90 t285 t300 t301 _ A103.out).mono ?_); rintro e w105 ⟨rfl, hb⟩; refine ⟨_, rfl, ?_⟩; have n0_ := Aside0.mk (below_step (by repeat (first | (with_reducible first | exact HB.out | apply below_alloc | apply pw_below_drewN | apply below_drew1) | exact HB.out)) hb); clear HB; have HB := n0_; clear n0_; (try clear hb); (try clear hb2); (try clear hk); (try clear hi)))
      (try simp only [Act.put, List.setIfInBounds_toArray, List.set_cons_zero, List.set_cons_succ])
      refine wp_cutF [o_,o_,o_,o_,o_,o_,o_,o_,o_,o_,o_,o_,o_,o_,o_,o_,o_,o_,o_,o_,o_,o_,o_,o_,o_,o_,o_,o_,o_,o_,o_,o_,o_,o_,o_,o_,o_,o_,o_,o_,o_,o_,o_,o_,o_,o_,o_,o_,o_,o_,o_,o_,o_,o_,o_,o_,o_,o_,o_,o_,o_,o_,o_,o_,i_,i_,i_,i_,i_,i_,i_,i_,i_,i_,i_,i_,i_,i_,i_,i_,i_,i_,i_,i_,i_,i_,i_,i_,i_,i_,i_,i_,i_,i_,i_,i_,i_,i_,i_,i_,i_,i_,i_,i_,i_,i_,i_,i_,i_,i_,i_,i_,i_,i_,i_,i_,i_,i_,i_,i_,i_,i_,i_,i_,i_,i_,i_,i_,i_,i_,i_,i_,i_,i_,i_,i_,i_,i_,i_,i_,i_,i_,i_,i_,i_,i_,i_,i_,i_,i_,i_,i_,i_,i_,i_,i_,i_,i_,i_,i_,i_,i_,i_,i_,i_,i_,i_,i_,i_,i_,i_,i_,i_,i_,i_,i_,i_,i_,i_,i_,i_,i_,i_,i_,i_,i_,i_,i_,i_,i_,i_,i_,i_,i_,i_,i_,i_,i_,i_,i_,i_,i_,i_,i_,i_,i_,i_,i_,i_,i_,i_,i_,i_,i_,i_,i_,i_,i_,i_,i_,i_,i_,i_,i_,i_,i_,i_,i_,i_,i_,i_,i_,i_,i_,i_,i_,i_,i_,i_,i_,i_,i_,i_,i_,i_,i_,i_,i_,i_,i_,i_,i_,i_,i_,i_,i_,i_,i_,i_,i_,i_,i_,i_,i_,i_,i_,i_,i_,i_,i_,i_,i_,i_,i_,i_,i_,i_,i_,i_,i_,i_,i_,i_,i_,i_,i_,i_,i_,i_,i_,i_,i_,i_,i_,i_,i_,i_,i_,i_,i_,i_,i_,i_,i_,i_,i_,i_,i_,i_,i_,i_,i_,i_,i_,i_,i_,i_,i_,i_,i_,i_,i_,i_,i_,i_,i_,i_,i_,i_,i_,i_,i_,i_,i_,i_,i_,i_,i_,i_,i_,i_,i_,i_,i_,i_,i_,i_,i_,i_,i_,i_,i_,i_,i_,i_,i_,i_,i_,i_,i_,i_,i_,i_,i_,i_,i_,i_,i_,i_,i_,i_,i_,i_,i_,i_,i_,i_,i_,i_,i_,i_,i_,i_,i_,i_,i_,i_,i_,i_,i_,i_,i_,i_,i_,i_,i_,i_,i_,i_,i_,i_,i_,i_,i_,i_,i_] (fun f_ wc => ∃ (kq : Nat) (x390_103 : Bool), (f_ 390) = .bool x390_103 ∧ Aside0 (laws_FnNumbersReflect.j9 kq t289 t290 t291 x390_103 = some r) ∧ Aside0 (kq ≤ kj90) ∧ Aside0 (Below w.heap.size w wc)) ?rest ?first
      case first =>
        intro J_ K_ hJ_ hK_
        have H := HC104.out
        clear HC104
        by_cases c106 : (t285.size : Int) = t284
        · rw [if_pos c106] at H
          have c106b0 : ((t285.size : Int) == t284) = true := beq_iff_eq.mpr c106
          have c106b1 : ((t285.size : Int) != t284) = false := bne_eq_false_iff_eq.mpr c106
          clear c106
          (first | rw [c106b0] | (simp only [i64_w, i32_w]; rw [c106b0]) | skip)
          by_cases c107 : t301 = true
          · subst c107
            have H1 : (laws_FnNumbersReflect.j9 kj90 t289 t290 t291 (t300 != t283)) = some r := by rw [if_pos rfl] at H; exact H
            clear H
            have H := H1
            clear H1
            have H' := Aside0.mk H
            clear H
            go_wp2
            refine Met.intro (hJ_ _ _ ?mg_ ?rel)
            case mg_ => kernel_rfl
            case rel => exact ⟨_, ((t300 != t283)), (by first | rfl | ((conv => lhs; whnf); first | rfl | (simp; done) | (simp [*]; done))), H', ⟨by have := HJ11.out; have := HJ21.out; have := HJ65.out; have := HJ82.out; have := HJ90.out; first | omega | exact Nat.le_refl _⟩, ⟨by repeat (first | (with_reducible first | exact HB.out | apply below_alloc | apply pw_below_drewN | apply below_drew1) | exact HB.out)⟩⟩
          · replace c107 := Bool.eq_false_iff.mpr c107
            subst c107
            have H1 : (laws_FnNumbersReflect.j9 kj90 t289 t290 t291 true) = some r := by rw [if_neg (show ¬ (false = true) by decide)] at H; exact H
            clear H
            have H := H1
            clear H1
            have H' := Aside0.mk H
            clear H
            go_wp2
            refine Met.intro (hJ_ _ _ ?mg_ ?rel)
            case mg_ => kernel_rfl
            case rel => exact ⟨_, (true), (by first | rfl | ((conv => lhs; whnf); first | rfl | (simp; done) | (simp [*]; done))), H', ⟨by have := HJ11.out; have := HJ21.out; have := HJ65.out; have := HJ82.out; have := HJ90.out; first | omega | exact Nat.le_refl _⟩, ⟨by repeat (first | (with_reducible first | exact HB.out | apply below_alloc | apply pw_below_drewN | apply below_drew1) | exact HB.out)⟩⟩
        · rw [if_neg c106] at H
          have c106b0 : ((t285.size : Int) == t284) = false := beq_eq_false_iff_ne.mpr c106
          have c106b1 : ((t285.size : Int) != t284) = true := bne_iff_ne.mpr c106
          (first | rw [c106b0] | (simp only [i64_w, i32_w]; rw [c106b0]) | skip)
          have H' := Aside0.mk H
          clear H
          go_wp2
          refine Met.intro (hJ_ _ _ ?mg_ ?rel)
          case mg_ => kernel_rfl
          case rel => exact ⟨_, (true), (by first | rfl | ((conv => lhs; whnf); first | rfl | (simp; done) | (simp [*]; done))), H', ⟨by have := HJ11.out; have := HJ21.out; have := HJ65.out; have := HJ82.out; have := HJ90.out; first | omega | exact Nat.le_refl _⟩, ⟨by repeat (first | (with_reducible first | exact HB.out | apply below_alloc | apply pw_below_drewN | apply below_drew1) | exact HB.out)⟩⟩
      case rest =>
        intro f_ wc hcut
        dsimp only [maskF] at hcut ⊢
        generalize f_ 390 = u390 at hcut ⊢
        repeat revert ‹_›
        intro HP0_
        exact HP0_.out
    · replace c102 := Bool.eq_false_iff.mpr c102
      subst c102
      have H1 : (if t291 = true then ((impl_ReflectedText.f kj90 t290 (t289.size : Int)).bind fun bt304 => (if bt304.2 = true then (some (bt304.1.toList == t289.toList)) else (some true))) else (some true)) = some r := by rw [if_neg (show ¬ (false = true) by decide)] at H; exact H
      clear H
      have H := H1
      clear H1
      by_cases c114 : t291 = true
      · subst c114
        have H1 : ((impl_ReflectedText.f kj90 t290 (t289.size : Int)).bind fun bt304 => (if bt304.2 = true then (some (bt304.1.toList == t289.toList)) else (some true))) = some r := by rw [if_pos rfl] at H; exact H
        clear H
        have H := H1
        clear H1
        replace H := Option.bind_eq_some_iff.mp H
        obtain ⟨⟨t304, t305⟩, A1150, H⟩ := H
        replace H : (if t305 = true then (some (t304.toList == t289.toList)) else (some true)) = some r := H
        have A115 := Aside0.mk A1150
        clear A1150
        by_cases c116 : t305 = true
        · subst c116
          have H1 : (some (t304.toList == t289.toList)) = some r := by rw [if_pos rfl] at H; exact H
          clear H
          have H := H1
          clear H1
          obtain rfl := Option.some.inj H
          go_wp2_with (first | ((with_reducible refine gate_callee (f := 13) rfl ?_); refine goesL_ (some 396) rfl rfl Tryd.func13 (by kernel_rfl) rfl #[.int .i64 t290, .int .i64 (t289.size : Int)] rfl (by (try simp only [List.map_toArray, List.map_cons, List.map_nil]); first | done | rfl | (simp only [List.length_drop, List.length_take]; rfl)) ?_; (with_reducible refine (impl_ReflectedText.calls kj90 t290 (t289.size : Int) t304 true _ A115.out).mono ?_); rintro e w117 ⟨rfl, hb⟩; refine ⟨_, rfl, ?_⟩; have n0_ := Aside0.mk (below_step (by repeat (first | (with_reducible first | exact HB.out | apply below_alloc | apply pw_below_drewN | apply below_drew1) | exact HB.out)) hb); clear HB; have HB := n0_; clear n0_; (try clear hb); (try clear hb2); (try clear hk); (try clear hi)))
          go_ret
          exact ⟨by first | rfl | (simp [errW_none, errW_some] <;> rfl) | (simp [*, errW_none, errW_some] <;> rfl), by repeat (first | (with_reducible first | exact HB.out | apply below_alloc | apply pw_below_drewN | apply below_drew1) | exact HB.out)⟩
        · replace c116 := Bool.eq_false_iff.mpr c116
          subst c116
          have H1 : (some true) = some r := by rw [if_neg (show ¬ (false = true) by decide)] at H; exact H
          clear H
          have H := H1
          clear H1
          obtain rfl := Option.some.inj H
          go_wp2_with (first | ((with_reducible refine gate_callee (f := 13) rfl ?_); refine goesL_ (some 396) rfl rfl Tryd.func13 (by kernel_rfl) rfl #[.int .i64 t290, .int .i64 (t289.size : Int)] rfl (by (try simp only [List.map_toArray, List.map_cons, List.map_nil]); first | done | rfl | (simp only [List.length_drop, List.length_take]; rfl)) ?_; (with_reducible refine (impl_ReflectedText.calls kj90 t290 (t289.size : Int) t304 false _ A115.out).mono ?_); rintro e w118 ⟨rfl, hb⟩; refine ⟨_, rfl, ?_⟩; have n0_ := Aside0.mk (below_step (by repeat (first | (with_reducible first | exact HB.out | apply below_alloc | apply pw_below_drewN | apply below_drew1) | exact HB.out)) hb); clear HB; have HB := n0_; clear n0_; (try clear hb); (try clear hb2); (try clear hk); (try clear hi)))
          go_ret
          exact ⟨by first | rfl | (simp [errW_none, errW_some] <;> rfl) | (simp [*, errW_none, errW_some] <;> rfl), by repeat (first | (with_reducible first | exact HB.out | apply below_alloc | apply pw_below_drewN | apply below_drew1) | exact HB.out)⟩
      · replace c114 := Bool.eq_false_iff.mpr c114
        subst c114
        have H1 : (some true) = some r := by rw [if_neg (show ¬ (false = true) by decide)] at H; exact H
        clear H
        have H := H1
        clear H1
        obtain rfl := Option.some.inj H
        go_wp2
        go_ret
        exact ⟨by first | rfl | (simp [errW_none, errW_some] <;> rfl) | (simp [*, errW_none, errW_some] <;> rfl), by repeat (first | (with_reducible first | exact HB.out | apply below_alloc | apply pw_below_drewN | apply below_drew1) | exact HB.out)⟩

set_option maxHeartbeats 8000000 in
set_option maxRecDepth 100000 in
theorem laws_FnNumbersReflect.c13 : laws_FnNumbersReflect.c12.1 := by
  intro k A0 c0 l0 A1 c1 l1 r w HR0 HC0 HR1 HC1 A3 t247 A5 t248 t249 A6 t250 t251 A7 t252 t253 A8 t254 t255 A9 t256 t257 A10 t258 t259 A11 _ _ _ w13 _ _ _ _ _ _ _ _ _ _ kj11 HJ11 _ _ kj21 HJ21 t270 t271 A54 t272 t273 A55 t274 t275 A56 t276 t277 t278 A57 t279 t280 A58 t281 t282 A59 t283 t284 A60 t285 t287 t288 A62 t289 A63 t290 t291 A64 t292 t293 A65 w67 _ _ w68 _ nd w69 w70 w71 w72 w73 w74 _ _ _ _ kj65 HJ65 _ _ _ kj82 HJ82 _ _ kj90 HJ90 A61 t300 t301 A103 HC104 _ _ w105 HB _ _ f_ wc u390 hcut
  clear HC104
  try clear c1
  try clear c2
  try clear p2
  try clear c3
  try clear c4
  try clear c5
  try clear c6
  try clear p6
  try clear c7
  try clear c8
  try clear c9
  try clear c10
  try clear c11
  try clear c12
  try clear c13
  try clear c14
  try clear c14b0
  try clear c14b1
  try clear c14b2
  try clear c15
  try clear c15b0
  try clear c15b1
  try clear c16
  try clear c16b0
  try clear c16b1
  try clear c16b2
  try clear c17
  try clear c17b0
  try clear c17b1
  try clear c18
  try clear c18b0
  try clear c18b1
  try clear c18b2
  try clear c19
  try clear c19b0
  try clear c19b1
  try clear c20
  try clear c20b0
  try clear c20b1
  try clear c20b2
  try clear c21
  try clear c22
  try clear c23
  try clear c27
  try clear c28
  try clear c28b0
  try clear c28b1
  try clear c29
  try clear c30
  try clear c31
  try clear c34
  try clear c35
  try clear c35b0
  try clear c35b1
  try clear c37
  try clear c40
  try clear c41
  try clear c42
  try clear c42b0
  try clear c42b1
  try clear c43
  try clear c43b0
  try clear c43b1
  try clear p64
  try clear c75
  try clear c75b0
  try clear c75b1
  try clear c75b2
  try clear c76
  try clear c76b0
  try clear c76b1
  try clear c77
  try clear c77b0
  try clear c77b1
  try clear c77b2
  try clear c78
  try clear c78b0
  try clear c78b1
  try clear c79
  try clear c79b0
  try clear c79b1
  try clear c79b2
  try clear c80
  try clear c80b0
  try clear c80b1
  try clear c81
  try clear c81b0
  try clear c81b1
  try clear c81b2
  try clear c82
  try clear c84
  try clear c87
  try clear c88
  try clear c88b0
  try clear c88b1
  try clear c89
  try clear c90
  try clear c90b0
  try clear c90b1
  try clear c92
  try clear c94
  try clear c94b0
  try clear c95
  try clear c96
  try clear c96b0
  try clear c97
  try clear c97b0
  try clear c99
  try clear c100
  try clear c100b0
  try clear c100b1
  try clear c101
  try clear c101b0
  try clear c101b1
  try clear c102
  try clear c106
  try clear c106b0
  try clear c106b1
  try clear c107
  try clear p2
  try clear p6
  try clear p64
  obtain ⟨kq, x390_103, rfl, HA, HJ103, HB⟩ := hcut
  cases kq with
  | zero => exact absurd HA.out (by simp [laws_FnNumbersReflect.j9])
  | succ kj103 =>
    have H := HA.out
    clear HA
    simp only [laws_FnNumbersReflect.j9] at H
    by_cases c108 : x390_103 = true
    · subst c108
      have H1 : (some false) = some r := by rw [if_pos rfl] at H; exact H
      clear H
      have H := H1
      clear H1
      obtain rfl := Option.some.inj H
      go_wp2
      go_ret
      exact ⟨by first | rfl | (simp [errW_none, errW_some] <;> rfl) | (simp [*, errW_none, errW_some] <;> rfl), by repeat (first | (with_reducible first | exact HB.out | apply below_alloc | apply pw_below_drewN | apply below_drew1) | exact HB.out)⟩
    · replace c108 := Bool.eq_false_iff.mpr c108
      subst c108
      have H1 : (if t291 = true then ((impl_ReflectedText.f kj103 t290 (t289.size : Int)).bind fun bt302 => (if bt302.2 = true then (some (bt302.1.toList == t289.toList)) else (some true))) else (some true)) = some r := by rw [if_neg (show ¬ (false = true) by decide)] at H; exact H
      clear H
      have H := H1
      clear H1
      by_cases c109 : t291 = true
      · subst c109
        have H1 : ((impl_ReflectedText.f kj103 t290 (t289.size : Int)).bind fun bt302 => (if bt302.2 = true then (some (bt302.1.toList == t289.toList)) else (some true))) = some r := by rw [if_pos rfl] at H; exact H
        clear H
        have H := H1
        clear H1
        replace H := Option.bind_eq_some_iff.mp H
        obtain ⟨⟨t302, t303⟩, A1100, H⟩ := H
        replace H : (if t303 = true then (some (t302.toList == t289.toList)) else (some true)) = some r := H
        have A110 := Aside0.mk A1100
        clear A1100
        by_cases c111 : t303 = true
        · subst c111
          have H1 : (some (t302.toList == t289.toList)) = some r := by rw [if_pos rfl] at H; exact H
          clear H
          have H := H1
          clear H1
          obtain rfl := Option.some.inj H
          go_wp2_with (first | ((with_reducible refine gate_callee (f := 13) rfl ?_); refine goesL_ (some 396) rfl rfl Tryd.func13 (by kernel_rfl) rfl #[.int .i64 t290, .int .i64 (t289.size : Int)] rfl (by (try simp only [List.map_toArray, List.map_cons, List.map_nil]); first | done | rfl | (simp only [List.length_drop, List.length_take]; rfl)) ?_; (with_reducible refine (impl_ReflectedText.calls kj103 t290 (t289.size : Int) t302 true _ A110.out).mono ?_); rintro e w112 ⟨rfl, hb⟩; refine ⟨_, rfl, ?_⟩; have n0_ := Aside0.mk (below_step (by repeat (first | (with_reducible first | exact HB.out | apply below_alloc | apply pw_below_drewN | apply below_drew1) | exact HB.out)) hb); clear HB; have HB := n0_; clear n0_; (try clear hb); (try clear hb2); (try clear hk); (try clear hi)))
          go_ret
          exact ⟨by first | rfl | (simp [errW_none, errW_some] <;> rfl) | (simp [*, errW_none, errW_some] <;> rfl), by repeat (first | (with_reducible first | exact HB.out | apply below_alloc | apply pw_below_drewN | apply below_drew1) | exact HB.out)⟩
        · replace c111 := Bool.eq_false_iff.mpr c111
          subst c111
          have H1 : (some true) = some r := by rw [if_neg (show ¬ (false = true) by decide)] at H; exact H
          clear H
          have H := H1
          clear H1
          obtain rfl := Option.some.inj H
          go_wp2_with (first | ((with_reducible refine gate_callee (f := 13) rfl ?_); refine goesL_ (some 396) rfl rfl Tryd.func13 (by kernel_rfl) rfl #[.int .i64 t290, .int .i64 (t289.size : Int)] rfl (by (try simp only [List.map_toArray, List.map_cons, List.map_nil]); first | done | rfl | (simp only [List.length_drop, List.length_take]; rfl)) ?_; (with_reducible refine (impl_ReflectedText.calls kj103 t290 (t289.size : Int) t302 false _ A110.out).mono ?_); rintro e w113 ⟨rfl, hb⟩; refine ⟨_, rfl, ?_⟩; have n0_ := Aside0.mk (below_step (by repeat (first | (with_reducible first | exact HB.out | apply below_alloc | apply pw_below_drewN | apply below_drew1) | exact HB.out)) hb); clear HB; have HB := n0_; clear n0_; (try clear hb); (try clear hb2); (try clear hk); (try clear hi)))
          go_ret
          exact ⟨by first | rfl | (simp [errW_none, errW_some] <;> rfl) | (simp [*, errW_none, errW_some] <;> rfl), by repeat (first | (with_reducible first | exact HB.out | apply below_alloc | apply pw_below_drewN | apply below_drew1) | exact HB.out)⟩
      · replace c109 := Bool.eq_false_iff.mpr c109
        subst c109
        have H1 : (some true) = some r := by rw [if_neg (show ¬ (false = true) by decide)] at H; exact H
        clear H
        have H := H1
        clear H1
        obtain rfl := Option.some.inj H
        go_wp2
        go_ret
        exact ⟨by first | rfl | (simp [errW_none, errW_some] <;> rfl) | (simp [*, errW_none, errW_some] <;> rfl), by repeat (first | (with_reducible first | exact HB.out | apply below_alloc | apply pw_below_drewN | apply below_drew1) | exact HB.out)⟩

theorem laws_FnNumbersReflect.d12 : laws_FnNumbersReflect.c8.2.1 := laws_FnNumbersReflect.c12.2 ⟨laws_FnNumbersReflect.c13⟩

theorem laws_FnNumbersReflect.d10 : laws_FnNumbersReflect.c9.1 := laws_FnNumbersReflect.c10.2 ⟨laws_FnNumbersReflect.c11⟩

theorem laws_FnNumbersReflect.d9 : laws_FnNumbersReflect.c8.1 := laws_FnNumbersReflect.c9.2 ⟨laws_FnNumbersReflect.d10⟩

theorem laws_FnNumbersReflect.d8 : laws_FnNumbersReflect.c6.2.1 := laws_FnNumbersReflect.c8.2.2 ⟨laws_FnNumbersReflect.d9⟩ ⟨laws_FnNumbersReflect.d12⟩

theorem laws_FnNumbersReflect.d6 : laws_FnNumbersReflect.c5.1 := laws_FnNumbersReflect.c6.2.2 ⟨laws_FnNumbersReflect.c7⟩ ⟨laws_FnNumbersReflect.d8⟩

theorem laws_FnNumbersReflect.d5 : laws_FnNumbersReflect.c1.2.1 := laws_FnNumbersReflect.c5.2 ⟨laws_FnNumbersReflect.d6⟩

theorem laws_FnNumbersReflect.d3 : laws_FnNumbersReflect.c2.1 := laws_FnNumbersReflect.c3.2 ⟨laws_FnNumbersReflect.c4⟩

theorem laws_FnNumbersReflect.d2 : laws_FnNumbersReflect.c1.1 := laws_FnNumbersReflect.c2.2 ⟨laws_FnNumbersReflect.d3⟩

theorem laws_FnNumbersReflect.d1 : laws_FnNumbersReflect.c0.1 := laws_FnNumbersReflect.c1.2.2 ⟨laws_FnNumbersReflect.d2⟩ ⟨laws_FnNumbersReflect.d5⟩

theorem laws_FnNumbersReflect.calls (k : Nat) (A0 : Option Addr) (c0 : Nat) (l0 : List Int) (A1 : Option Addr) (c1 : Nat) (l1 : List Int) (r : Bool) (w : World) (hr0 : Kd.C (Kd.int .u8) w A0 l0.length l0) (hc0 : l0.length ≤ c0) (hr1 : Kd.C (Kd.int .u8) w A1 l1.length l1) (hc1 : l1.length ≤ c1) (h : laws_FnNumbersReflect.f k l0 l1 = some r) :
    Calls Tryd.prog 3 #[.slice A0 l0.length c0, .slice A1 l1.length c1] w fun e w' => e = .returned (.bool r) ∧ Below w.heap.size w w' := laws_FnNumbersReflect.c0.2 ⟨laws_FnNumbersReflect.d1⟩ k A0 c0 l0 A1 c1 l1 r w hr0 hc0 hr1 hc1 h
theorem laws_FnNumbersReflect.walk (P : laws_FnNumbersReflect.Pure) (a0 : Option Addr) (len0 cap0 : Nat) (z0 : List Int) (a1 : Option Addr) (len1 cap1 : Nat) (z1 : List Int) (w : World) (w0 : (a0 = none ∧ len0 = 0 ∧ cap0 = 0 ∧ z0 = []) ∨ ∃ x, a0 = some x ∧ len0 ≤ cap0 ∧ cap0 ≤ maxLen ∧ z0.length = cap0 ∧ (∀ i, i < z0.length → w.cell? (x.add i) = some (.int .u8 (z0.getD i 0))) ∧ ∀ n ∈ z0, (Lit.int .u8 n).wf = true) (y0 : len0 * 1 ≤ 140737488351232) (w1 : (a1 = none ∧ len1 = 0 ∧ cap1 = 0 ∧ z1 = []) ∨ ∃ x, a1 = some x ∧ len1 ≤ cap1 ∧ cap1 ≤ maxLen ∧ z1.length = cap1 ∧ (∀ i, i < z1.length → w.cell? (x.add i) = some (.int .u8 (z1.getD i 0))) ∧ ∀ n ∈ z1, (Lit.int .u8 n).wf = true) (y1 : len1 * 1 ≤ 140737488351232) :
    Calls Tryd.prog 3 #[.slice a0 len0 cap0, .slice a1 len1 cap1] w fun e w' => e = .returned (.bool true) ∧ Below w.heap.size w w' := by
  obtain ⟨l0, rfl, hr0, hm0, hw0, hc0⟩ := ReadsInt.ofRowC w0
  obtain ⟨l1, rfl, hr1, hm1, hw1, hc1⟩ := ReadsInt.ofRowC w1
  obtain ⟨k, h⟩ := P l0 l1 hm0 y0 hw0 hm1 y1 hw1
  refine (laws_FnNumbersReflect.calls k _ _ l0 _ _ l1 true w (Kd.C_of_reads (d := (0 : Int)) (h1 := fun _ => rfl) hr0) hc0 (Kd.C_of_reads (d := (0 : Int)) (h1 := fun _ => rfl) hr1) hc1 h).mono ?_
  rintro e w' ⟨rfl, hd⟩
  exact ⟨rfl, hd⟩

end Go.Proofs.YtancjdpdinbddaaDoor.A
