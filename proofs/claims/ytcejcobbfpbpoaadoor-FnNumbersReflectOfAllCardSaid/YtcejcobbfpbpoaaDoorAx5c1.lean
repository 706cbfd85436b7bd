-- written by a program of this session's over the kit's print (xp.py)
import Derived.Test.YtcejcobbfpbpoaaDoorAx0
import Derived.Test.YtcejcobbfpbpoaaDoorAx1
import Derived.Test.YtcejcobbfpbpoaaDoorAx2
import Derived.Test.YtcejcobbfpbpoaaDoorAx3
import Derived.Test.YtcejcobbfpbpoaaDoorAx4
import Derived.Test.YtcejcobbfpbpoaaDoorAx5
namespace Go.Proofs.YtcejcobbfpbpoaaDoor.A
open Go.RowKit Go.Proofs.YtcejcobbfpbpoaaDoorW.PrintWords Go.Proofs.YtcejcobbfpbpoaaDoorW.PrintLast Go.Proofs.YtcejcobbfpbpoaaDoorW.PrintMore
attribute [local go_sem] max2_int min2_int max_two min_two max_three min_three max_four min_four   -- for this text's walks alone
set_option linter.unusedVariables false
set_option linter.unusedSimpArgs false

set_option maxHeartbeats 8000000 in
set_option maxRecDepth 100000 in
def laws_FnNumbersReflectOfAll.c0 : PSigma fun P0_ : Prop => Hole P0_ → (∀ (k : Nat) (a0 : Int) (a1 : Int) (a2 : Int) (a3 : Int) (a4 : Int) (a5 : Int) (a6 : Int) (a7 : Int) (a8 : ByteArray) (r : Bool) (w : World) (h : laws_FnNumbersReflectOfAll.f k a0 a1 a2 a3 a4 a5 a6 a7 a8 = some r), Calls Tryd.prog 3 #[.int .i64 a0, .int .i64 a1, .int .i64 a2, .int .i64 a3, .int .i64 a4, .int .i64 a5, .int .i64 a6, .int .i64 a7, .string a8] w fun e w' => e = .returned (.bool r) ∧ Below w.heap.size w w') := by
  refine' ⟨_, fun HP0_ => _⟩
  rotate_left 1
  intro k a0 a1 a2 a3 a4 a5 a6 a7 a8 r w h
  have HB := Aside0.mk (Below.refl w.heap.size w)
  have H : (if (a8.size : Int) > 1048576 then (some true) else ((impl_ReflectedOf.f a0).bind fun bt151 => ((spec_ReflectedOf.f a0).bind fun bt153 => ((impl_NumberOfReflected.f k a0).bind fun bt155 => ((spec_NumberOfReflected.f k a0).bind fun bt157 => ((impl_ChangedDigit.f k a0).bind fun bt159 => ((spec_ChangedDigit.f k a0).bind fun bt161 => (if (bt151.2 != bt153.2) = true then (laws_FnNumbersReflectOfAll.j0 k a0 a1 a2 a3 a4 a5 a6 a7 a8 bt151.1 bt151.2 bt159.1 true) else (if bt151.1 = bt153.1 then (if (bt155.2 != bt157.2) = true then (laws_FnNumbersReflectOfAll.j0 k a0 a1 a2 a3 a4 a5 a6 a7 a8 bt151.1 bt151.2 bt159.1 true) else (if bt155.1 = bt157.1 then (if (bt159.2 != bt161.2) = true then (laws_FnNumbersReflectOfAll.j0 k a0 a1 a2 a3 a4 a5 a6 a7 a8 bt151.1 bt151.2 bt159.1 true) else (if bt159.1 = bt161.1 then (if (bt155.2 != bt151.2) = true then (laws_FnNumbersReflectOfAll.j0 k a0 a1 a2 a3 a4 a5 a6 a7 a8 bt151.1 bt151.2 bt159.1 true) else (laws_FnNumbersReflectOfAll.j0 k a0 a1 a2 a3 a4 a5 a6 a7 a8 bt151.1 bt151.2 bt159.1 (bt159.2 != bt151.2))) else (laws_FnNumbersReflectOfAll.j0 k a0 a1 a2 a3 a4 a5 a6 a7 a8 bt151.1 bt151.2 bt159.1 true))) else (laws_FnNumbersReflectOfAll.j0 k a0 a1 a2 a3 a4 a5 a6 a7 a8 bt151.1 bt151.2 bt159.1 true))) else (laws_FnNumbersReflectOfAll.j0 k a0 a1 a2 a3 a4 a5 a6 a7 a8 bt151.1 bt151.2 bt159.1 true)))))))))) = some r := h
  clear h
  by_cases c10 : (a8.size : Int) > 1048576
  · rw [if_pos c10] at H
    have c10b0 : decide (1048576 < (a8.size : Int)) = true := decide_eq_true c10
    have c10b1 : decide (1048576 < a8.size) = true := decide_eq_true (by omega)
    clear c10
    obtain rfl := Option.some.inj H
    go_enter Tryd.func3, Tryd.ntmps3
    go_wp2
    go_ret
    exact ⟨by first | rfl | (simp [errW_none, errW_some] <;> rfl) | (simp [*, errW_none, errW_some] <;> rfl), by repeat (first | (with_reducible first | exact HB.out | apply below_alloc | apply pw_below_drewN | apply below_drew1) | exact HB.out)⟩
  · rw [if_neg c10] at H
    have c10b0 : decide (1048576 < (a8.size : Int)) = false := decide_eq_false c10
    have c10b1 : decide (1048576 < a8.size) = false := decide_eq_false (by omega)
    clear c10
    replace H := Option.bind_eq_some_iff.mp H
    obtain ⟨⟨t151, t152⟩, A110, H⟩ := H
    replace H : ((spec_ReflectedOf.f a0).bind fun bt153 => ((impl_NumberOfReflected.f k a0).bind fun bt155 => ((spec_NumberOfReflected.f k a0).bind fun bt157 => ((impl_ChangedDigit.f k a0).bind fun bt159 => ((spec_ChangedDigit.f k a0).bind fun bt161 => (if (t152 != bt153.2) = true then (laws_FnNumbersReflectOfAll.j0 k a0 a1 a2 a3 a4 a5 a6 a7 a8 t151 t152 bt159.1 true) else (if t151 = bt153.1 then (if (bt155.2 != bt157.2) = true then (laws_FnNumbersReflectOfAll.j0 k a0 a1 a2 a3 a4 a5 a6 a7 a8 t151 t152 bt159.1 true) else (if bt155.1 = bt157.1 then (if (bt159.2 != bt161.2) = true then (laws_FnNumbersReflectOfAll.j0 k a0 a1 a2 a3 a4 a5 a6 a7 a8 t151 t152 bt159.1 true) else (if bt159.1 = bt161.1 then (if (bt155.2 != t152) = true then (laws_FnNumbersReflectOfAll.j0 k a0 a1 a2 a3 a4 a5 a6 a7 a8 t151 t152 bt159.1 true) else (laws_FnNumbersReflectOfAll.j0 k a0 a1 a2 a3 a4 a5 a6 a7 a8 t151 t152 bt159.1 (bt159.2 != t152))) else (laws_FnNumbersReflectOfAll.j0 k a0 a1 a2 a3 a4 a5 a6 a7 a8 t151 t152 bt159.1 true))) else (laws_FnNumbersReflectOfAll.j0 k a0 a1 a2 a3 a4 a5 a6 a7 a8 t151 t152 bt159.1 true))) else (laws_FnNumbersReflectOfAll.j0 k a0 a1 a2 a3 a4 a5 a6 a7 a8 t151 t152 bt159.1 true)))))))) = some r := H
    have A11 := Aside0.mk A110
    clear A110
    replace H := Option.bind_eq_some_iff.mp H
    obtain ⟨⟨t153, t154⟩, A120, H⟩ := H
    replace H : ((impl_NumberOfReflected.f k a0).bind fun bt155 => ((spec_NumberOfReflected.f k a0).bind fun bt157 => ((impl_ChangedDigit.f k a0).bind fun bt159 => ((spec_ChangedDigit.f k a0).bind fun bt161 => (if (t152 != t154) = true then (laws_FnNumbersReflectOfAll.j0 k a0 a1 a2 a3 a4 a5 a6 a7 a8 t151 t152 bt159.1 true) else (if t151 = t153 then (if (bt155.2 != bt157.2) = true then (laws_FnNumbersReflectOfAll.j0 k a0 a1 a2 a3 a4 a5 a6 a7 a8 t151 t152 bt159.1 true) else (if bt155.1 = bt157.1 then (if (bt159.2 != bt161.2) = true then (laws_FnNumbersReflectOfAll.j0 k a0 a1 a2 a3 a4 a5 a6 a7 a8 t151 t152 bt159.1 true) else (if bt159.1 = bt161.1 then (if (bt155.2 != t152) = true then (laws_FnNumbersReflectOfAll.j0 k a0 a1 a2 a3 a4 a5 a6 a7 a8 t151 t152 bt159.1 true) else (laws_FnNumbersReflectOfAll.j0 k a0 a1 a2 a3 a4 a5 a6 a7 a8 t151 t152 bt159.1 (bt159.2 != t152))) else (laws_FnNumbersReflectOfAll.j0 k a0 a1 a2 a3 a4 a5 a6 a7 a8 t151 t152 bt159.1 true))) else (laws_FnNumbersReflectOfAll.j0 k a0 a1 a2 a3 a4 a5 a6 a7 a8 t151 t152 bt159.1 true))) else (laws_FnNumbersReflectOfAll.j0 k a0 a1 a2 a3 a4 a5 a6 a7 a8 t151 t152 bt159.1 true))))))) = some r := H
    have A12 := Aside0.mk A120
    clear A120
    replace H := Option.bind_eq_some_iff.mp H
    obtain ⟨⟨t155, t156⟩, A130, H⟩ := H
    replace H : ((spec_NumberOfReflected.f k a0).bind fun bt157 => ((impl_ChangedDigit.f k a0).bind fun bt159 => ((spec_ChangedDigit.f k a0).bind fun bt161 => (if (t152 != t154) = true then (laws_FnNumbersReflectOfAll.j0 k a0 a1 a2 a3 a4 a5 a6 a7 a8 t151 t152 bt159.1 true) else (if t151 = t153 then (if (t156 != bt157.2) = true then (laws_FnNumbersReflectOfAll.j0 k a0 a1 a2 a3 a4 a5 a6 a7 a8 t151 t152 bt159.1 true) else (if t155 = bt157.1 then (if (bt159.2 != bt161.2) = true then (laws_FnNumbersReflectOfAll.j0 k a0 a1 a2 a3 a4 a5 a6 a7 a8 t151 t152 bt159.1 true) else (if bt159.1 = bt161.1 then (if (t156 != t152) = true then (laws_FnNumbersReflectOfAll.j0 k a0 a1 a2 a3 a4 a5 a6 a7 a8 t151 t152 bt159.1 true) else (laws_FnNumbersReflectOfAll.j0 k a0 a1 a2 a3 a4 a5 a6 a7 a8 t151 t152 bt159.1 (bt159.2 != t152))) else (laws_FnNumbersReflectOfAll.j0 k a0 a1 a2 a3 a4 a5 a6 a7 a8 t151 t152 bt159.1 true))) else (laws_FnNumbersReflectOfAll.j0 k a0 a1 a2 a3 a4 a5 a6 a7 a8 t151 t152 bt159.1 true))) else (laws_FnNumbersReflectOfAll.j0 k a0 a1 a2 a3 a4 a5 a6 a7 a8 t151 t152 bt159.1 true)))))) = some r := H
    have A13 := Aside0.mk A130
    clear A130
    replace H := Option.bind_eq_some_iff.mp H
    obtain ⟨⟨t157, t158⟩, A140, H⟩ := H
    replace H : ((impl_ChangedDigit.f k a0).bind fun bt159 => ((spec_ChangedDigit.f k a0).bind fun bt161 => (if (t152 != t154) = true then (laws_FnNumbersReflectOfAll.j0 k a0 a1 a2 a3 a4 a5 a6 a7 a8 t151 t152 bt159.1 true) else (if t151 = t153 then (if (t156 != t158) = true then (laws_FnNumbersReflectOfAll.j0 k a0 a1 a2 a3 a4 a5 a6 a7 a8 t151 t152 bt159.1 true) else (if t155 = t157 then (if (bt159.2 != bt161.2) = true then (laws_FnNumbersReflectOfAll.j0 k a0 a1 a2 a3 a4 a5 a6 a7 a8 t151 t152 bt159.1 true) else (if bt159.1 = bt161.1 then (if (t156 != t152) = true then (laws_FnNumbersReflectOfAll.j0 k a0 a1 a2 a3 a4 a5 a6 a7 a8 t151 t152 bt159.1 true) else (laws_FnNumbersReflectOfAll.j0 k a0 a1 a2 a3 a4 a5 a6 a7 a8 t151 t152 bt159.1 (bt159.2 != t152))) else (laws_FnNumbersReflectOfAll.j0 k a0 a1 a2 a3 a4 a5 a6 a7 a8 t151 t152 bt159.1 true))) else (laws_FnNumbersReflectOfAll.j0 k a0 a1 a2 a3 a4 a5 a6 a7 a8 t151 t152 bt159.1 true))) else (laws_FnNumbersReflectOfAll.j0 k a0 a1 a2 a3 a4 a5 a6 a7 a8 t151 t152 bt159.1 true))))) = some r := H
    have A14 := Aside0.mk A140
    clear A140
    replace H := Option.bind_eq_some_iff.mp H
    obtain ⟨⟨t159, t160⟩, A150, H⟩ := H
    replace H : ((spec_ChangedDigit.f k a0).bind fun bt161 => (if (t152 != t154) = true then (laws_FnNumbersReflectOfAll.j0 k a0 a1 a2 a3 a4 a5 a6 a7 a8 t151 t152 t159 true) else (if t151 = t153 then (if (t156 != t158) = true then (laws_FnNumbersReflectOfAll.j0 k a0 a1 a2 a3 a4 a5 a6 a7 a8 t151 t152 t159 true) else (if t155 = t157 then (if (t160 != bt161.2) = true then (laws_FnNumbersReflectOfAll.j0 k a0 a1 a2 a3 a4 a5 a6 a7 a8 t151 t152 t159 true) else (if t159 = bt161.1 then (if (t156 != t152) = true then (laws_FnNumbersReflectOfAll.j0 k a0 a1 a2 a3 a4 a5 a6 a7 a8 t151 t152 t159 true) else (laws_FnNumbersReflectOfAll.j0 k a0 a1 a2 a3 a4 a5 a6 a7 a8 t151 t152 t159 (t160 != t152))) else (laws_FnNumbersReflectOfAll.j0 k a0 a1 a2 a3 a4 a5 a6 a7 a8 t151 t152 t159 true))) else (laws_FnNumbersReflectOfAll.j0 k a0 a1 a2 a3 a4 a5 a6 a7 a8 t151 t152 t159 true))) else (laws_FnNumbersReflectOfAll.j0 k a0 a1 a2 a3 a4 a5 a6 a7 a8 t151 t152 t159 true)))) = some r := H
    have A15 := Aside0.mk A150
    clear A150
    replace H := Option.bind_eq_some_iff.mp H
    obtain ⟨⟨t161, t162⟩, A160, H⟩ := H
    replace H : (if (t152 != t154) = true then (laws_FnNumbersReflectOfAll.j0 k a0 a1 a2 a3 a4 a5 a6 a7 a8 t151 t152 t159 true) else (if t151 = t153 then (if (t156 != t158) = true then (laws_FnNumbersReflectOfAll.j0 k a0 a1 a2 a3 a4 a5 a6 a7 a8 t151 t152 t159 true) else (if t155 = t157 then (if (t160 != t162) = true then (laws_FnNumbersReflectOfAll.j0 k a0 a1 a2 a3 a4 a5 a6 a7 a8 t151 t152 t159 true) else (if t159 = t161 then (if (t156 != t152) = true then (laws_FnNumbersReflectOfAll.j0 k a0 a1 a2 a3 a4 a5 a6 a7 a8 t151 t152 t159 true) else (laws_FnNumbersReflectOfAll.j0 k a0 a1 a2 a3 a4 a5 a6 a7 a8 t151 t152 t159 (t160 != t152))) else (laws_FnNumbersReflectOfAll.j0 k a0 a1 a2 a3 a4 a5 a6 a7 a8 t151 t152 t159 true))) else (laws_FnNumbersReflectOfAll.j0 k a0 a1 a2 a3 a4 a5 a6 a7 a8 t151 t152 t159 true))) else (laws_FnNumbersReflectOfAll.j0 k a0 a1 a2 a3 a4 a5 a6 a7 a8 t151 t152 t159 true))) = some r := H
    have A16 := Aside0.mk A160
    clear A160
    have HC17 := Aside0.mk H
    clear H
    go_enter Tryd.func3, Tryd.ntmps3
    go_upto_region 9 with (first | ((with_reducible refine gate_callee (f := 4) rfl ?_); refine goesL_ (some 74) rfl rfl Tryd.func4 (by kernel_rfl) rfl #[.int .i64 a0] rfl (by (try simp only [List.map_toArray, List.map_cons, List.map_nil]); first | done | rfl | (simp only [List.length_drop, List.length_take]; rfl)) ?_; (with_reducible refine (impl_ReflectedOf.calls a0 t151 t152 _ A11.out).mono ?_); rintro e w' ⟨rfl, ⟨nd, rfl⟩⟩; refine ⟨_, rfl, ?_⟩) | ((with_reducible refine gate_callee (f := 5) rfl ?_); refine goesL_ (some 79) rfl rfl Tryd.func5 (by kernel_rfl) rfl #[.int .i64 a0] rfl (by (try simp only [List.map_toArray, List.map_cons, List.map_nil]); first | done | rfl | (simp only [List.length_drop, List.length_take]; rfl)) ?_; (with_reducible refine (spec_ReflectedOf.calls a0 t153 t154 _ A12.out).mono ?_); rintro e w' ⟨rfl, ⟨nd, rfl⟩⟩; refine ⟨_, rfl, ?_⟩) | ((with_reducible refine gate_callee (f := 6) rfl ?_); refine goesL_ (some 84) rfl rfl Tryd.func6 (by kernel_rfl) rfl #[.int .i64 a0] rfl (by (try simp only [List.map_toArray, List.map_cons, List.map_nil]); first | done | rfl | (simp only [List.length_drop, List.length_take]; rfl)) ?_; (with_reducible refine (impl_NumberOfReflected.calls k a0 t155 t156 _ A13.out).mono ?_); rintro e w' ⟨rfl, ⟨nd, rfl⟩⟩; refine ⟨_, rfl, ?_⟩) | ((with_reducible refine gate_callee (f := 7) rfl ?_); refine goesL_ (some 89) rfl rfl Tryd.func7 (by kernel_rfl) rfl #[.int .i64 a0] rfl (by (try simp only [List.map_toArray, List.map_cons, List.map_nil]); first | done | rfl | (simp only [List.length_drop, List.length_take]; rfl)) ?_; (with_reducible refine (spec_NumberOfReflected.calls k a0 t157 t158 _ A14.out).mono ?_); rintro e w' ⟨rfl, ⟨nd, rfl⟩⟩; refine ⟨_, rfl, ?_⟩) | ((with_reducible refine gate_callee (f := 8) rfl ?_); refine goesL_ (some 94) rfl rfl Tryd.func8 (by kernel_rfl) rfl #[.int .i64 a0] rfl (by (try simp only [List.map_toArray, List.map_cons, List.map_nil]); first | done | rfl | (simp only [List.length_drop, List.length_take]; rfl)) ?_; (with_reducible refine (impl_ChangedDigit.calls k a0 t159 t160 _ A15.out).mono ?_); rintro e w' ⟨rfl, ⟨nd, rfl⟩⟩; refine ⟨_, rfl, ?_⟩) | ((with_reducible refine gate_callee (f := 9) rfl ?_); refine goesL_ (some 99) rfl rfl Tryd.func9 (by kernel_rfl) rfl #[.int .i64 a0] rfl (by (try simp only [List.map_toArray, List.map_cons, List.map_nil]); first | done | rfl | (simp only [List.length_drop, List.length_take]; rfl)) ?_; (with_reducible refine (spec_ChangedDigit.calls k a0 t161 t162 _ A16.out).mono ?_); rintro e w' ⟨rfl, ⟨nd, rfl⟩⟩; refine ⟨_, rfl, ?_⟩))
    (try simp only [Act.put, List.setIfInBounds_toArray, List.set_cons_zero, List.set_cons_succ])
    refine wp_cutF [o_,o_,o_,o_,o_,o_,o_,o_,o_,o_,o_,o_,o_,o_,o_,o_,o_,o_,o_,o_,o_,o_,o_,o_,o_,o_,o_,o_,o_,o_,o_,o_,o_,o_,o_,o_,o_,o_,o_,o_,o_,o_,o_,o_,o_,o_,o_,o_,o_,o_,o_,o_,o_,o_,o_,o_,o_,o_,o_,o_,o_,o_,o_,o_,o_,o_,o_,o_,o_,i_,i_,i_,i_,i_,i_,i_,i_,i_,i_,i_,i_,i_,i_,i_,i_,i_,i_,i_,i_,i_,i_,i_,i_,i_,i_,i_,i_,i_,i_,i_,i_,i_,i_,i_,i_,i_,i_,i_,i_,i_,i_,i_,i_,i_,i_,i_,i_,i_,i_,i_,i_,i_,i_,i_,i_,i_,i_,i_,i_,i_,i_,i_,i_,i_,i_,i_,i_,i_,i_,i_,i_,i_,i_,i_,i_,i_,i_,i_,i_,i_,i_,i_,i_,i_,i_,i_,i_,i_,i_,i_,i_,i_,i_,i_,i_,i_,i_,i_,i_,i_,i_,i_,i_,i_,i_,i_,i_,i_,i_,i_,i_,i_,i_,i_,i_,i_,i_,i_,i_,i_,i_,i_,i_,i_,i_,i_,i_,i_,i_,i_,i_,i_,i_,i_,i_,i_,i_,i_,i_,i_,i_,i_,i_,i_,i_,i_,i_,i_,i_,i_,i_,i_,i_,i_,i_,i_,i_,i_,i_,i_,i_,i_,i_,i_,i_,i_,i_,i_,i_,i_,i_,i_,i_,i_,i_,i_,i_,i_,i_,i_,i_,i_,i_,i_,i_,i_,i_,i_,i_,i_,i_,i_,i_,i_,i_,i_,i_,i_,i_,i_,i_,i_,i_,i_,i_,i_,i_,i_,i_,i_,i_,i_,i_,i_,i_,i_,i_,i_,i_,i_,i_,i_,i_,i_,i_,i_,i_,i_,i_,i_,i_,i_,i_,i_,i_,i_,i_,i_,i_,i_,i_,i_,i_,i_,i_,i_,i_,i_,i_,i_,i_,i_,i_,i_,i_,i_,i_,i_,i_,i_,i_,i_,i_,i_,i_,i_,i_,i_,i_,i_,i_,i_,i_,i_,i_,i_,i_,i_,i_,i_,i_,i_,i_,i_,i_,i_,i_,i_,i_,i_,i_,i_,i_,i_,i_,i_,i_,i_,i_,i_,i_,i_,i_,i_,i_,i_,i_,i_,i_,i_,i_,i_,i_,i_,i_,i_,i_,i_,i_,i_,i_] (fun f_ wc => ∃ (kq : Nat) (x139_16 : Bool), (f_ 139) = .bool x139_16 ∧ Aside0 (laws_FnNumbersReflectOfAll.j0 kq a0 a1 a2 a3 a4 a5 a6 a7 a8 t151 t152 t159 x139_16 = some r) ∧ Aside0 (kq ≤ k) ∧ Aside0 (Below w.heap.size w wc)) ?rest ?first
    case first =>
      intro J_ K_ hJ_ hK_
      have H := HC17.out
      clear HC17
      by_cases c18 : (t152 != t154) = true
      · rw [if_pos c18] at H
        have c18b0 : (t152 != t154) = true := c18
        (try (have c18b1 : decide (t152 = t154) = false := by simpa using c18))
        (try (have c18b2 : (t152 == t154) = false := by simpa using c18))
        (try (have c18b3 : ¬ (t152 = t154) := by simpa using c18))
        clear c18
        (first | rw [c18b0] | (simp only [i64_w, i32_w]; rw [c18b0]) | skip)
        have H' := Aside0.mk H
        clear H
        go_wp2
        refine Met.intro (hJ_ _ _ ?mg_ ?rel)
        case mg_ => kernel_rfl
        case rel => exact ⟨_, (true), (by first | rfl | (simp; done) | (simp [*]; done)), H', ⟨by first | omega | exact Nat.le_refl _⟩, ⟨by repeat (first | (with_reducible first | exact HB.out | apply below_alloc | apply pw_below_drewN | apply below_drew1) | exact HB.out)⟩⟩
      · rw [if_neg c18] at H
        have c18b0 : (t152 != t154) = false := by simpa using c18
        (try (have c18b1 : decide (t152 = t154) = true := by simpa using c18))
        (try (have c18b2 : (t152 == t154) = true := by simpa using c18))
        clear c18
        (first | rw [c18b0] | (simp only [i64_w, i32_w]; rw [c18b0]) | skip)
        by_cases c19 : t151 = t153
        · rw [if_pos c19] at H
          have c19b0 : (t151 == t153) = true := beq_iff_eq.mpr c19
          have c19b1 : (t151 != t153) = false := bne_eq_false_iff_eq.mpr c19
          clear c19
          by_cases c20 : (t156 != t158) = true
          · rw [if_pos c20] at H
            have c20b0 : (t156 != t158) = true := c20
            (try (have c20b1 : decide (t156 = t158) = false := by simpa using c20))
            (try (have c20b2 : (t156 == t158) = false := by simpa using c20))
            (try (have c20b3 : ¬ (t156 = t158) := by simpa using c20))
            clear c20
            have H' := Aside0.mk H
            clear H
            go_wp2
            refine Met.intro (hJ_ _ _ ?mg_ ?rel)
            case mg_ => kernel_rfl
            case rel => exact ⟨_, (true), (by first | rfl | (simp; done) | (simp [*]; done)), H', ⟨by first | omega | exact Nat.le_refl _⟩, ⟨by repeat (first | (with_reducible first | exact HB.out | apply below_alloc | apply pw_below_drewN | apply below_drew1) | exact HB.out)⟩⟩
          · rw [if_neg c20] at H
            have c20b0 : (t156 != t158) = false := by simpa using c20
            (try (have c20b1 : decide (t156 = t158) = true := by simpa using c20))
            (try (have c20b2 : (t156 == t158) = true := by simpa using c20))
            clear c20
            by_cases c21 : t155 = t157
            · rw [if_pos c21] at H
              have c21b0 : (t155 == t157) = true := beq_iff_eq.mpr c21
              have c21b1 : (t155 != t157) = false := bne_eq_false_iff_eq.mpr c21
              clear c21
              by_cases c22 : (t160 != t162) = true
              · rw [if_pos c22] at H
                have c22b0 : (t160 != t162) = true := c22
                (try (have c22b1 : decide (t160 = t162) = false := by simpa using c22))
                (try (have c22b2 : (t160 == t162) = false := by simpa using c22))
                (try (have c22b3 : ¬ (t160 = t162) := by simpa using c22))
                clear c22
                have H' := Aside0.mk H
                clear H
                go_wp2
                refine Met.intro (hJ_ _ _ ?mg_ ?rel)
                case mg_ => kernel_rfl
                case rel => exact ⟨_, (true), (by first | rfl | (simp; done) | (simp [*]; done)), H', ⟨by first | omega | exact Nat.le_refl _⟩, ⟨by repeat (first | (with_reducible first | exact HB.out | apply below_alloc | apply pw_below_drewN | apply below_drew1) | exact HB.out)⟩⟩
              · rw [if_neg c22] at H
                have c22b0 : (t160 != t162) = false := by simpa using c22
                (try (have c22b1 : decide (t160 = t162) = true := by simpa using c22))
                (try (have c22b2 : (t160 == t162) = true := by simpa using c22))
                clear c22
                by_cases c23 : t159 = t161
                · rw [if_pos c23] at H
                  have c23b0 : (t159 == t161) = true := beq_iff_eq.mpr c23
                  have c23b1 : (t159 != t161) = false := bne_eq_false_iff_eq.mpr c23
                  clear c23
                  by_cases c24 : (t156 != t152) = true
                  · rw [if_pos c24] at H
                    have c24b0 : (t156 != t152) = true := c24
                    (try (have c24b1 : decide (t156 = t152) = false := by simpa using c24))
                    (try (have c24b2 : (t156 == t152) = false := by simpa using c24))
                    (try (have c24b3 : ¬ (t156 = t152) := by simpa using c24))
                    clear c24
                    have H' := Aside0.mk H
                    clear H
                    go_wp2
                    refine Met.intro (hJ_ _ _ ?mg_ ?rel)
                    case mg_ => kernel_rfl
                    case rel => exact ⟨_, (true), (by first | rfl | (simp; done) | (simp [*]; done)), H', ⟨by first | omega | exact Nat.le_refl _⟩, ⟨by repeat (first | (with_reducible first | exact HB.out | apply below_alloc | apply pw_below_drewN | apply below_drew1) | exact HB.out)⟩⟩
                  · rw [if_neg c24] at H
                    have c24b0 : (t156 != t152) = false := by simpa using c24
                    (try (have c24b1 : decide (t156 = t152) = true := by simpa using c24))
                    (try (have c24b2 : (t156 == t152) = true := by simpa using c24))
                    clear c24
                    have H' := Aside0.mk H
                    clear H
                    go_wp2
                    refine Met.intro (hJ_ _ _ ?mg_ ?rel)
                    case mg_ => kernel_rfl
                    case rel => exact ⟨_, ((t160 != t152)), (by first | rfl | (simp; done) | (simp [*]; done)), H', ⟨by first | omega | exact Nat.le_refl _⟩, ⟨by repeat (first | (with_reducible first | exact HB.out | apply below_alloc | apply pw_below_drewN | apply below_drew1) | exact HB.out)⟩⟩
                · rw [if_neg c23] at H
                  have c23b0 : (t159 == t161) = false := beq_eq_false_iff_ne.mpr c23
                  have c23b1 : (t159 != t161) = true := bne_iff_ne.mpr c23
                  have H' := Aside0.mk H
                  clear H
                  go_wp2
                  refine Met.intro (hJ_ _ _ ?mg_ ?rel)
                  case mg_ => kernel_rfl
                  case rel => exact ⟨_, (true), (by first | rfl | (simp; done) | (simp [*]; done)), H', ⟨by first | omega | exact Nat.le_refl _⟩, ⟨by repeat (first | (with_reducible first | exact HB.out | apply below_alloc | apply pw_below_drewN | apply below_drew1) | exact HB.out)⟩⟩
            · rw [if_neg c21] at H
              have c21b0 : (t155 == t157) = false := beq_eq_false_iff_ne.mpr c21
              have c21b1 : (t155 != t157) = true := bne_iff_ne.mpr c21
              have H' := Aside0.mk H
              clear H
              go_wp2
              refine Met.intro (hJ_ _ _ ?mg_ ?rel)
              case mg_ => kernel_rfl
              case rel => exact ⟨_, (true), (by first | rfl | (simp; done) | (simp [*]; done)), H', ⟨by first | omega | exact Nat.le_refl _⟩, ⟨by repeat (first | (with_reducible first | exact HB.out | apply below_alloc | apply pw_below_drewN | apply below_drew1) | exact HB.out)⟩⟩
        · rw [if_neg c19] at H
          have c19b0 : (t151 == t153) = false := beq_eq_false_iff_ne.mpr c19
          have c19b1 : (t151 != t153) = true := bne_iff_ne.mpr c19
          have H' := Aside0.mk H
          clear H
          go_wp2
          refine Met.intro (hJ_ _ _ ?mg_ ?rel)
          case mg_ => kernel_rfl
          case rel => exact ⟨_, (true), (by first | rfl | (simp; done) | (simp [*]; done)), H', ⟨by first | omega | exact Nat.le_refl _⟩, ⟨by repeat (first | (with_reducible first | exact HB.out | apply below_alloc | apply pw_below_drewN | apply below_drew1) | exact HB.out)⟩⟩
    case rest =>
      intro f_ wc hcut
      dsimp only [maskF] at hcut ⊢
      generalize f_ 139 = u139 at hcut ⊢
      repeat revert ‹_›
      intro HP0_
      exact HP0_.out

set_option maxHeartbeats 8000000 in
set_option maxRecDepth 100000 in
def laws_FnNumbersReflectOfAll.c1 : PSigma fun P0_ : Prop => PSigma fun P1_ : Prop => Hole P0_ → Hole P1_ → laws_FnNumbersReflectOfAll.c0.1 := by
  refine' ⟨_, _, fun HP0_ HP1_ => _⟩
  rotate_left 2
  intro k a0 a1 a2 a3 a4 a5 a6 a7 a8 r w HB c10b0 c10b1 t151 t152 A11 t153 t154 A12 t155 t156 A13 t157 t158 A14 t159 t160 A15 t161 t162 A16 HC17 _ _ _ _ _ _ nd _ _ _ _ f_ wc u139 hcut
  clear HC17
  try clear c1
  try clear c2
  try clear p2
  try clear c3
  try clear c4
  try clear c5
  try clear c6
  try clear c7
  try clear c8
  try clear c9
  try clear c10
  try clear c10b0
  try clear c10b1
  try clear c18
  try clear c18b0
  try clear c18b1
  try clear c18b2
  try clear c19
  try clear c19b0
  try clear c19b1
  try clear c20
  try clear c20b0
  try clear c20b1
  try clear c20b2
  try clear c21
  try clear c21b0
  try clear c21b1
  try clear c22
  try clear c22b0
  try clear c22b1
  try clear c22b2
  try clear c23
  try clear c23b0
  try clear c23b1
  try clear c24
  try clear c24b0
  try clear c24b1
  try clear c24b2
  obtain ⟨kq, x139_16, rfl, HA, HJ16, HB⟩ := hcut
  cases kq with
  | zero => exact absurd HA.out (by simp [laws_FnNumbersReflectOfAll.j0])
  | succ kj16 =>
    have H := HA.out
    clear HA
    simp only [laws_FnNumbersReflectOfAll.j0] at H
    by_cases c25 : x139_16 = true
    · subst c25
      have H1 : (some false) = some r := by rw [if_pos rfl] at H; exact H
      clear H
      have H := H1
      clear H1
      obtain rfl := Option.some.inj H
      go_wp2
      go_ret
      exact ⟨by first | rfl | (simp [errW_none, errW_some] <;> rfl) | (simp [*, errW_none, errW_some] <;> rfl), by repeat (first | (with_reducible first | exact HB.out | apply below_alloc | apply pw_below_drewN | apply below_drew1) | exact HB.out)⟩
    · replace c25 := Bool.eq_false_iff.mpr c25
      subst c25
      have H1 : (if t152 = true then ((impl_NumberOfReflected.f kj16 t151).bind fun bt163 => ((impl_PlainSum.f a0 (wrap64 (Int.tdiv a0 2))).bind fun bt165 => (if bt163.2 = true then (if bt163.1 = a0 then (if bt165.2 = true then (laws_FnNumbersReflectOfAll.j1 kj16 a0 a1 a2 a3 a4 a5 a6 a7 a8 t151 t159 (bt165.1 != t151)) else (laws_FnNumbersReflectOfAll.j1 kj16 a0 a1 a2 a3 a4 a5 a6 a7 a8 t151 t159 true)) else (laws_FnNumbersReflectOfAll.j1 kj16 a0 a1 a2 a3 a4 a5 a6 a7 a8 t151 t159 true)) else (if bt165.2 = true then (laws_FnNumbersReflectOfAll.j1 kj16 a0 a1 a2 a3 a4 a5 a6 a7 a8 t151 t159 (bt165.1 != t151)) else (laws_FnNumbersReflectOfAll.j1 kj16 a0 a1 a2 a3 a4 a5 a6 a7 a8 t151 t159 true))))) else (laws_FnNumbersReflectOfAll.j3 kj16 a1 a2 a3 a4 a5 a6 a7 a8)) = some r := by rw [if_neg (show ¬ (false = true) by decide)] at H; exact H
      clear H
      have H := H1
      clear H1
      have HC26 := Aside0.mk H
      clear H
      go_upto_if 140 with (fail)
      refine wp_cutF [o_,o_,o_,o_,o_,o_,o_,o_,o_,o_,o_,o_,o_,o_,o_,o_,o_,o_,i_,o_,o_,o_,o_,o_,o_,o_,o_,o_,o_,o_,o_,i_,i_,i_,i_,i_,i_,i_,i_,i_,i_,o_,o_,o_,o_,o_,o_,o_,o_,o_,o_,o_,o_,o_,o_,o_,o_,o_,o_,o_,o_,o_,o_,o_,o_,o_,o_,o_,o_,i_,i_,i_,i_,i_,i_,i_,i_,i_,i_,i_,i_,i_,i_,i_,i_,i_,i_,i_,i_,i_,i_,i_,i_,i_,i_,i_,i_,i_,i_,i_,i_,i_,i_,i_,i_,i_,i_,i_,i_,i_,i_,i_,i_,i_,i_,i_,i_,i_,i_,i_,i_,i_,i_,i_,i_,i_,i_,i_,i_,i_,i_,i_,i_,i_,i_,i_,i_,i_,i_,i_,i_,i_,i_,i_,i_,i_,i_,i_,i_,i_,i_,i_,i_,i_,i_,i_,i_,i_,i_,i_,i_,i_,i_,i_,i_,i_,i_,i_,i_,i_,i_,i_,i_,i_,i_,i_,i_,i_,i_,i_,i_,i_,i_,i_,i_,i_,i_,i_,i_,i_,i_,i_,i_,i_,i_,i_,i_,i_,i_,i_,i_,i_,i_,i_,i_,i_,i_,i_,i_,i_,i_,i_,i_,i_,i_,i_,i_,i_,i_,i_,i_,i_,i_,i_,i_,i_,i_,i_,i_,i_,i_,i_,i_,i_,i_,i_,i_,i_,i_,i_,i_,i_,i_,i_,i_,i_,i_,i_,i_,i_,i_,i_,i_,i_,i_,i_,i_,i_,i_,i_,i_,i_,i_,i_,i_,i_,i_,i_,i_,i_,i_,i_,i_,i_,i_,i_,i_,i_,i_,i_,i_,i_,i_,i_,i_,i_,i_,i_,i_,i_,i_,i_,i_,i_,i_,i_,i_,i_,i_,i_,i_,i_,i_,i_,i_,i_,i_,i_,i_,i_,i_,i_,i_,i_,i_,i_,i_,i_,i_,i_,i_,i_,i_,i_,i_,i_,i_,i_,i_,i_,i_,i_,i_,i_,i_,i_,i_,i_,i_,i_,i_,i_,i_,i_,i_,i_,i_,i_,i_,i_,i_,i_,i_,i_,i_,i_,i_,i_,i_,i_,i_,i_,i_,i_,i_,i_,i_,i_,i_,i_,i_,i_,i_,i_,i_,i_,i_,i_,i_,i_,i_,i_,i_,i_,i_,i_,i_,i_,i_,i_,i_] (fun f_ wc => ∃ (kq : Nat), Aside0 (laws_FnNumbersReflectOfAll.j3 kq a1 a2 a3 a4 a5 a6 a7 a8 = some r) ∧ Aside0 (kq ≤ kj16) ∧ Aside0 (Below w.heap.size w wc)) ?rest ?first
      case first =>
        intro J_ K_ hJ_ hK_
        repeat revert ‹_›
        intro HP0_ HP1_
        exact HP0_.out
      case rest =>
        intro f_ wc hcut
        dsimp only [maskF] at hcut ⊢
        repeat revert ‹_›
        intro HP0_ HP1_
        exact HP1_.out

set_option maxHeartbeats 8000000 in
set_option maxRecDepth 100000 in
def laws_FnNumbersReflectOfAll.c2 : PSigma fun P0_ : Prop => Hole P0_ → laws_FnNumbersReflectOfAll.c1.1 := by
  refine' ⟨_, fun HP0_ => _⟩
  rotate_left 1
  intro k a0 a1 a2 a3 a4 a5 a6 a7 a8 r w _ t151 t152 A11 t153 t154 A12 t155 t156 A13 t157 t158 A14 t159 t160 A15 t161 t162 A16 _ _ _ _ _ _ nd f_ wc HB kj16 HJ16 HC26 _ _ J_ K_ hJ_ hK_
  have H := HC26.out
  clear HC26
  by_cases c27 : t152 = true
  · subst c27
    have H1 : ((impl_NumberOfReflected.f kj16 t151).bind fun bt163 => ((impl_PlainSum.f a0 (wrap64 (Int.tdiv a0 2))).bind fun bt165 => (if bt163.2 = true then (if bt163.1 = a0 then (if bt165.2 = true then (laws_FnNumbersReflectOfAll.j1 kj16 a0 a1 a2 a3 a4 a5 a6 a7 a8 t151 t159 (bt165.1 != t151)) else (laws_FnNumbersReflectOfAll.j1 kj16 a0 a1 a2 a3 a4 a5 a6 a7 a8 t151 t159 true)) else (laws_FnNumbersReflectOfAll.j1 kj16 a0 a1 a2 a3 a4 a5 a6 a7 a8 t151 t159 true)) else (if bt165.2 = true then (laws_FnNumbersReflectOfAll.j1 kj16 a0 a1 a2 a3 a4 a5 a6 a7 a8 t151 t159 (bt165.1 != t151)) else (laws_FnNumbersReflectOfAll.j1 kj16 a0 a1 a2 a3 a4 a5 a6 a7 a8 t151 t159 true))))) = some r := by rw [if_pos rfl] at H; exact H
    clear H
    have H := H1
    clear H1
    replace H := Option.bind_eq_some_iff.mp H
    obtain ⟨⟨t163, t164⟩, A280, H⟩ := H
    replace H : ((impl_PlainSum.f a0 (wrap64 (Int.tdiv a0 2))).bind fun bt165 => (if t164 = true then (if t163 = a0 then (if bt165.2 = true then (laws_FnNumbersReflectOfAll.j1 kj16 a0 a1 a2 a3 a4 a5 a6 a7 a8 t151 t159 (bt165.1 != t151)) else (laws_FnNumbersReflectOfAll.j1 kj16 a0 a1 a2 a3 a4 a5 a6 a7 a8 t151 t159 true)) else (laws_FnNumbersReflectOfAll.j1 kj16 a0 a1 a2 a3 a4 a5 a6 a7 a8 t151 t159 true)) else (if bt165.2 = true then (laws_FnNumbersReflectOfAll.j1 kj16 a0 a1 a2 a3 a4 a5 a6 a7 a8 t151 t159 (bt165.1 != t151)) else (laws_FnNumbersReflectOfAll.j1 kj16 a0 a1 a2 a3 a4 a5 a6 a7 a8 t151 t159 true)))) = some r := H
    have A28 := Aside0.mk A280
    clear A280
    replace H := Option.bind_eq_some_iff.mp H
    obtain ⟨⟨t165, t166⟩, A290, H⟩ := H
    replace H : (if t164 = true then (if t163 = a0 then (if t166 = true then (laws_FnNumbersReflectOfAll.j1 kj16 a0 a1 a2 a3 a4 a5 a6 a7 a8 t151 t159 (t165 != t151)) else (laws_FnNumbersReflectOfAll.j1 kj16 a0 a1 a2 a3 a4 a5 a6 a7 a8 t151 t159 true)) else (laws_FnNumbersReflectOfAll.j1 kj16 a0 a1 a2 a3 a4 a5 a6 a7 a8 t151 t159 true)) else (if t166 = true then (laws_FnNumbersReflectOfAll.j1 kj16 a0 a1 a2 a3 a4 a5 a6 a7 a8 t151 t159 (t165 != t151)) else (laws_FnNumbersReflectOfAll.j1 kj16 a0 a1 a2 a3 a4 a5 a6 a7 a8 t151 t159 true))) = some r := H
    have A29 := Aside0.mk A290
    clear A290
    have HC30 := Aside0.mk H
    clear H
    go_upto_region 14 with (first | ((with_reducible refine gate_callee (f := 6) rfl ?_); refine goesL_ (some 143) rfl rfl Tryd.func6 (by kernel_rfl) rfl #[.int .i64 t151] rfl (by (try simp only [List.map_toArray, List.map_cons, List.map_nil]); first | done | rfl | (simp only [List.length_drop, List.length_take]; rfl)) ?_; (with_reducible refine (impl_NumberOfReflected.calls kj16 t151 t163 t164 _ A28.out).mono ?_); rintro e w' ⟨rfl, ⟨nd, rfl⟩⟩; refine ⟨_, rfl, ?_⟩) | ((with_reducible refine gate_callee (f := 10) rfl ?_); refine goesL_ (some 150) rfl rfl Tryd.func10 (by kernel_rfl) rfl #[.int .i64 a0, .int .i64 (wrap64 (Int.tdiv a0 2))] rfl (by (try simp only [List.map_toArray, List.map_cons, List.map_nil]); first | done | rfl | (simp only [List.length_drop, List.length_take]; rfl)) ?_; (with_reducible refine (impl_PlainSum.calls a0 (wrap64 (Int.tdiv a0 2)) t165 t166 _ A29.out).mono ?_); rintro e w' ⟨rfl, ⟨nd, rfl⟩⟩; refine ⟨_, rfl, ?_⟩))
    (try simp only [Act.put, List.setIfInBounds_toArray, List.set_cons_zero, List.set_cons_succ])
    refine wp_cutF [o_,o_,o_,o_,o_,o_,o_,o_,o_,o_,o_,o_,o_,o_,o_,o_,o_,o_,o_,o_,o_,o_,o_,o_,o_,o_,o_,o_,o_,o_,o_,o_,o_,o_,o_,o_,o_,o_,o_,o_,o_,o_,o_,o_,o_,o_,o_,o_,o_,o_,o_,o_,o_,o_,o_,o_,o_,o_,o_,o_,o_,o_,o_,o_,o_,o_,o_,o_,o_,i_,i_,i_,i_,i_,i_,i_,i_,i_,i_,i_,i_,i_,i_,i_,i_,i_,i_,i_,i_,i_,i_,i_,i_,i_,i_,i_,i_,i_,i_,i_,i_,i_,i_,i_,i_,i_,i_,i_,i_,i_,i_,i_,i_,i_,i_,i_,i_,i_,i_,i_,i_,i_,i_,i_,i_,i_,i_,i_,i_,i_,i_,i_,i_,i_,i_,i_,i_,i_,i_,i_,i_,i_,i_,i_,i_,i_,i_,i_,i_,i_,i_,i_,i_,i_,i_,i_,i_,i_,i_,i_,i_,i_,i_,i_,i_,i_,i_,i_,i_,i_,i_,i_,i_,i_,i_,i_,i_,i_,i_,i_,i_,i_,i_,i_,i_,i_,i_,i_,i_,i_,i_,i_,i_,i_,i_,i_,i_,i_,i_,i_,i_,i_,i_,i_,i_,i_,i_,i_,i_,i_,i_,i_,i_,i_,i_,i_,i_,i_,i_,i_,i_,i_,i_,i_,i_,i_,i_,i_,i_,i_,i_,i_,i_,i_,i_,i_,i_,i_,i_,i_,i_,i_,i_,i_,i_,i_,i_,i_,i_,i_,i_,i_,i_,i_,i_,i_,i_,i_,i_,i_,i_,i_,i_,i_,i_,i_,i_,i_,i_,i_,i_,i_,i_,i_,i_,i_,i_,i_,i_,i_,i_,i_,i_,i_,i_,i_,i_,i_,i_,i_,i_,i_,i_,i_,i_,i_,i_,i_,i_,i_,i_,i_,i_,i_,i_,i_,i_,i_,i_,i_,i_,i_,i_,i_,i_,i_,i_,i_,i_,i_,i_,i_,i_,i_,i_,i_,i_,i_,i_,i_,i_,i_,i_,i_,i_,i_,i_,i_,i_,i_,i_,i_,i_,i_,i_,i_,i_,i_,i_,i_,i_,i_,i_,i_,i_,i_,i_,i_,i_,i_,i_,i_,i_,i_,i_,i_,i_,i_,i_,i_,i_,i_,i_,i_,i_,i_,i_,i_,i_,i_,i_,i_,i_,i_,i_,i_,i_,i_,i_,i_,i_] (fun f_ wc => ∃ (kq : Nat) (x167_29 : Bool), (f_ 167) = .bool x167_29 ∧ Aside0 (laws_FnNumbersReflectOfAll.j1 kq a0 a1 a2 a3 a4 a5 a6 a7 a8 t151 t159 x167_29 = some r) ∧ Aside0 (kq ≤ kj16) ∧ Aside0 (Below w.heap.size w wc)) ?rest ?first
    case first =>
      intro J_ K_ hJ_ hK_
      have H := HC30.out
      clear HC30
      by_cases c31 : t164 = true
      · subst c31
        have H1 : (if t163 = a0 then (if t166 = true then (laws_FnNumbersReflectOfAll.j1 kj16 a0 a1 a2 a3 a4 a5 a6 a7 a8 t151 t159 (t165 != t151)) else (laws_FnNumbersReflectOfAll.j1 kj16 a0 a1 a2 a3 a4 a5 a6 a7 a8 t151 t159 true)) else (laws_FnNumbersReflectOfAll.j1 kj16 a0 a1 a2 a3 a4 a5 a6 a7 a8 t151 t159 true)) = some r := by rw [if_pos rfl] at H; exact H
        clear H
        have H := H1
        clear H1
        by_cases c32 : t163 = a0
        · rw [if_pos c32] at H
          have c32b0 : (t163 == a0) = true := beq_iff_eq.mpr c32
          have c32b1 : (t163 != a0) = false := bne_eq_false_iff_eq.mpr c32
          clear c32
          (first | rw [c32b0] | (simp only [i64_w, i32_w]; rw [c32b0]) | skip)
          by_cases c33 : t166 = true
          · subst c33
            have H1 : (laws_FnNumbersReflectOfAll.j1 kj16 a0 a1 a2 a3 a4 a5 a6 a7 a8 t151 t159 (t165 != t151)) = some r := by rw [if_pos rfl] at H; exact H
            clear H
            have H := H1
            clear H1
            have H' := Aside0.mk H
            clear H
            go_wp2
            refine Met.intro (hJ_ _ _ ?mg_ ?rel)
            case mg_ => kernel_rfl
            case rel => exact ⟨_, ((t165 != t151)), (by first | rfl | (simp; done) | (simp [*]; done)), H', ⟨by have := HJ16.out; first | omega | exact Nat.le_refl _⟩, ⟨by repeat (first | (with_reducible first | exact HB.out | apply below_alloc | apply pw_below_drewN | apply below_drew1) | exact HB.out)⟩⟩
          · replace c33 := Bool.eq_false_iff.mpr c33
            subst c33
            have H1 : (laws_FnNumbersReflectOfAll.j1 kj16 a0 a1 a2 a3 a4 a5 a6 a7 a8 t151 t159 true) = some r := by rw [if_neg (show ¬ (false = true) by decide)] at H; exact H
            clear H
            have H := H1
            clear H1
            have H' := Aside0.mk H
            clear H
            go_wp2
            refine Met.intro (hJ_ _ _ ?mg_ ?rel)
            case mg_ => kernel_rfl
            case rel => exact ⟨_, (true), (by first | rfl | (simp; done) | (simp [*]; done)), H', ⟨by have := HJ16.out; first | omega | exact Nat.le_refl _⟩, ⟨by repeat (first | (with_reducible first | exact HB.out | apply below_alloc | apply pw_below_drewN | apply below_drew1) | exact HB.out)⟩⟩
        · rw [if_neg c32] at H
          have c32b0 : (t163 == a0) = false := beq_eq_false_iff_ne.mpr c32
          have c32b1 : (t163 != a0) = true := bne_iff_ne.mpr c32
          (first | rw [c32b0] | (simp only [i64_w, i32_w]; rw [c32b0]) | skip)
          have H' := Aside0.mk H
          clear H
          go_wp2
          refine Met.intro (hJ_ _ _ ?mg_ ?rel)
          case mg_ => kernel_rfl
          case rel => exact ⟨_, (true), (by first | rfl | (simp; done) | (simp [*]; done)), H', ⟨by have := HJ16.out; first | omega | exact Nat.le_refl _⟩, ⟨by repeat (first | (with_reducible first | exact HB.out | apply below_alloc | apply pw_below_drewN | apply below_drew1) | exact HB.out)⟩⟩
      · replace c31 := Bool.eq_false_iff.mpr c31
        subst c31
        have H1 : (if t166 = true then (laws_FnNumbersReflectOfAll.j1 kj16 a0 a1 a2 a3 a4 a5 a6 a7 a8 t151 t159 (t165 != t151)) else (laws_FnNumbersReflectOfAll.j1 kj16 a0 a1 a2 a3 a4 a5 a6 a7 a8 t151 t159 true)) = some r := by rw [if_neg (show ¬ (false = true) by decide)] at H; exact H
        clear H
        have H := H1
        clear H1
        by_cases c34 : t166 = true
        · subst c34
          have H1 : (laws_FnNumbersReflectOfAll.j1 kj16 a0 a1 a2 a3 a4 a5 a6 a7 a8 t151 t159 (t165 != t151)) = some r := by rw [if_pos rfl] at H; exact H
          clear H
          have H := H1
          clear H1
          have H' := Aside0.mk H
          clear H
          go_wp2
          refine Met.intro (hJ_ _ _ ?mg_ ?rel)
          case mg_ => kernel_rfl
          case rel => exact ⟨_, ((t165 != t151)), (by first | rfl | (simp; done) | (simp [*]; done)), H', ⟨by have := HJ16.out; first | omega | exact Nat.le_refl _⟩, ⟨by repeat (first | (with_reducible first | exact HB.out | apply below_alloc | apply pw_below_drewN | apply below_drew1) | exact HB.out)⟩⟩
        · replace c34 := Bool.eq_false_iff.mpr c34
          subst c34
          have H1 : (laws_FnNumbersReflectOfAll.j1 kj16 a0 a1 a2 a3 a4 a5 a6 a7 a8 t151 t159 true) = some r := by rw [if_neg (show ¬ (false = true) by decide)] at H; exact H
          clear H
          have H := H1
          clear H1
          have H' := Aside0.mk H
          clear H
          go_wp2
          refine Met.intro (hJ_ _ _ ?mg_ ?rel)
          case mg_ => kernel_rfl
          case rel => exact ⟨_, (true), (by first | rfl | (simp; done) | (simp [*]; done)), H', ⟨by have := HJ16.out; first | omega | exact Nat.le_refl _⟩, ⟨by repeat (first | (with_reducible first | exact HB.out | apply below_alloc | apply pw_below_drewN | apply below_drew1) | exact HB.out)⟩⟩
    case rest =>
      intro f_ wc hcut
      dsimp only [maskF] at hcut ⊢
      generalize f_ 167 = u167 at hcut ⊢
      repeat revert ‹_›
      intro HP0_
      exact HP0_.out
  · replace c27 := Bool.eq_false_iff.mpr c27
    subst c27
    have H1 : (laws_FnNumbersReflectOfAll.j3 kj16 a1 a2 a3 a4 a5 a6 a7 a8) = some r := by rw [if_neg (show ¬ (false = true) by decide)] at H; exact H
    clear H
    have H := H1
    clear H1
    have H' := Aside0.mk H
    clear H
    go_wp2
    refine Met.intro (hJ_ _ _ ?mg_ ?rel)
    case mg_ => kernel_rfl
    case rel => exact ⟨_, H', ⟨by have := HJ16.out; first | omega | exact Nat.le_refl _⟩, ⟨by repeat (first | (with_reducible first | exact HB.out | apply below_alloc | apply pw_below_drewN | apply below_drew1) | exact HB.out)⟩⟩

set_option maxHeartbeats 8000000 in
set_option maxRecDepth 100000 in
def laws_FnNumbersReflectOfAll.c3 : PSigma fun P0_ : Prop => Hole P0_ → laws_FnNumbersReflectOfAll.c2.1 := by
  refine' ⟨_, fun HP0_ => _⟩
  rotate_left 1
  intro k a0 a1 a2 a3 a4 a5 a6 a7 a8 r w _ t151 t153 t154 A12 t155 t156 A13 t157 t158 A14 t159 t160 A15 t161 t162 A16 _ _ _ _ _ _ _ _ _ HB kj16 HJ16 _ _ J_ K_ hK_ A11 hJ_ t163 t164 A28 t165 t166 A29 HC30 _ nd _ _ _ _ f_ wc u167 hcut
  clear HC30
  try clear c1
  try clear c2
  try clear p2
  try clear c3
  try clear c4
  try clear c5
  try clear c6
  try clear p6
  try clear c7
  try clear c8
  try clear c9
  try clear c10
  try clear c10b0
  try clear c10b1
  try clear c18
  try clear c18b0
  try clear c18b1
  try clear c18b2
  try clear c19
  try clear c19b0
  try clear c19b1
  try clear c20
  try clear c20b0
  try clear c20b1
  try clear c20b2
  try clear c21
  try clear c21b0
  try clear c21b1
  try clear c22
  try clear c22b0
  try clear c22b1
  try clear c22b2
  try clear c23
  try clear c23b0
  try clear c23b1
  try clear c24
  try clear c24b0
  try clear c24b1
  try clear c24b2
  try clear c25
  try clear c27
  try clear c31
  try clear c32
  try clear c32b0
  try clear c32b1
  try clear c33
  try clear c34
  try clear p2
  obtain ⟨kq, x167_29, rfl, HA, HJ29, HB⟩ := hcut
  cases kq with
  | zero => exact absurd HA.out (by simp [laws_FnNumbersReflectOfAll.j1])
  | succ kj29 =>
    have H := HA.out
    clear HA
    simp only [laws_FnNumbersReflectOfAll.j1] at H
    by_cases c35 : x167_29 = true
    · subst c35
      have H1 : (some false) = some r := by rw [if_pos rfl] at H; exact H
      clear H
      have H := H1
      clear H1
      obtain rfl := Option.some.inj H
      go_wp2
      go_ret
      exact ⟨by first | rfl | (simp [errW_none, errW_some] <;> rfl) | (simp [*, errW_none, errW_some] <;> rfl), by repeat (first | (with_reducible first | exact HB.out | apply below_alloc | apply pw_below_drewN | apply below_drew1) | exact HB.out)⟩
    · replace c35 := Bool.eq_false_iff.mpr c35
      subst c35
      have H1 : ((impl_ReflectedOf.f (wrap64 (a0 + 1))).bind fun bt167 => (if bt167.2 = true then (if 0 ≤ t159 then (laws_FnNumbersReflectOfAll.j2 kj29 a0 a1 a2 a3 a4 a5 a6 a7 a8 ((Go.bits .xor .i64 bt167.1 t151) != (shl .i64 1 t159))) else (none)) else (laws_FnNumbersReflectOfAll.j2 kj29 a0 a1 a2 a3 a4 a5 a6 a7 a8 false))) = some r := by rw [if_neg (show ¬ (false = true) by decide)] at H; exact H
      clear H
      have H := H1
      clear H1
      replace H := Option.bind_eq_some_iff.mp H
      obtain ⟨⟨t167, t168⟩, A360, H⟩ := H
      replace H : (if t168 = true then (if 0 ≤ t159 then (laws_FnNumbersReflectOfAll.j2 kj29 a0 a1 a2 a3 a4 a5 a6 a7 a8 ((Go.bits .xor .i64 t167 t151) != (shl .i64 1 t159))) else (none)) else (laws_FnNumbersReflectOfAll.j2 kj29 a0 a1 a2 a3 a4 a5 a6 a7 a8 false)) = some r := H
      have A36 := Aside0.mk A360
      clear A360
      have HC37 := Aside0.mk H
      clear H
      go_upto_region 17 with (first | ((with_reducible refine gate_callee (f := 4) rfl ?_); refine goesL_ (some 171) rfl rfl Tryd.func4 (by kernel_rfl) rfl #[.int .i64 (wrap64 (a0 + 1))] rfl (by (try simp only [List.map_toArray, List.map_cons, List.map_nil]); first | done | rfl | (simp only [List.length_drop, List.length_take]; rfl)) ?_; (with_reducible refine (impl_ReflectedOf.calls (wrap64 (a0 + 1)) t167 t168 _ A36.out).mono ?_); rintro e w' ⟨rfl, ⟨nd, rfl⟩⟩; refine ⟨_, rfl, ?_⟩))
      (try simp only [Act.put, List.setIfInBounds_toArray, List.set_cons_zero, List.set_cons_succ])
      refine wp_cutF [o_,o_,o_,o_,o_,o_,o_,o_,o_,o_,o_,o_,o_,o_,o_,o_,o_,o_,o_,o_,o_,o_,o_,o_,o_,o_,o_,o_,o_,o_,o_,o_,o_,o_,o_,o_,o_,o_,o_,o_,o_,o_,o_,o_,o_,o_,o_,o_,o_,o_,o_,o_,o_,o_,o_,o_,o_,o_,o_,o_,o_,o_,o_,o_,o_,o_,o_,o_,o_,i_,i_,i_,i_,i_,i_,i_,i_,i_,i_,i_,i_,i_,i_,i_,i_,i_,i_,i_,i_,i_,i_,i_,i_,i_,i_,i_,i_,i_,i_,i_,i_,i_,i_,i_,i_,i_,i_,i_,i_,i_,i_,i_,i_,i_,i_,i_,i_,i_,i_,i_,i_,i_,i_,i_,i_,i_,i_,i_,i_,i_,i_,i_,i_,i_,i_,i_,i_,i_,i_,i_,i_,i_,i_,i_,i_,i_,i_,i_,i_,i_,i_,i_,i_,i_,i_,i_,i_,i_,i_,i_,i_,i_,i_,i_,i_,i_,i_,i_,i_,i_,i_,i_,i_,i_,i_,i_,i_,i_,i_,i_,i_,i_,i_,i_,i_,i_,i_,i_,i_,i_,i_,i_,i_,i_,i_,i_,i_,i_,i_,i_,i_,i_,i_,i_,i_,i_,i_,i_,i_,i_,i_,i_,i_,i_,i_,i_,i_,i_,i_,i_,i_,i_,i_,i_,i_,i_,i_,i_,i_,i_,i_,i_,i_,i_,i_,i_,i_,i_,i_,i_,i_,i_,i_,i_,i_,i_,i_,i_,i_,i_,i_,i_,i_,i_,i_,i_,i_,i_,i_,i_,i_,i_,i_,i_,i_,i_,i_,i_,i_,i_,i_,i_,i_,i_,i_,i_,i_,i_,i_,i_,i_,i_,i_,i_,i_,i_,i_,i_,i_,i_,i_,i_,i_,i_,i_,i_,i_,i_,i_,i_,i_,i_,i_,i_,i_,i_,i_,i_,i_,i_,i_,i_,i_,i_,i_,i_,i_,i_,i_,i_,i_,i_,i_,i_,i_,i_,i_,i_,i_,i_,i_,i_,i_,i_,i_,i_,i_,i_,i_,i_,i_,i_,i_,i_,i_,i_,i_,i_,i_,i_,i_,i_,i_,i_,i_,i_,i_,i_,i_,i_,i_,i_,i_,i_,i_,i_,i_,i_,i_,i_,i_,i_,i_,i_,i_,i_,i_,i_,i_,i_,i_,i_,i_,i_,i_,i_,i_,i_,i_,i_,i_] (fun f_ wc => ∃ (kq : Nat) (x182_36 : Bool), (f_ 182) = .bool x182_36 ∧ Aside0 (laws_FnNumbersReflectOfAll.j2 kq a0 a1 a2 a3 a4 a5 a6 a7 a8 x182_36 = some r) ∧ Aside0 (kq ≤ kj29) ∧ Aside0 (Below w.heap.size w wc)) ?rest ?first
      case first =>
        intro J_ K_ hJ_ hK_
        have H := HC37.out
        clear HC37
        by_cases c38 : t168 = true
        · subst c38
          have H1 : (if 0 ≤ t159 then (laws_FnNumbersReflectOfAll.j2 kj29 a0 a1 a2 a3 a4 a5 a6 a7 a8 ((Go.bits .xor .i64 t167 t151) != (shl .i64 1 t159))) else (none)) = some r := by rw [if_pos rfl] at H; exact H
          clear H
          have H := H1
          clear H1
          by_cases c39 : 0 ≤ t159
          · rw [if_pos c39] at H
            have c39b0 := eq_true c39
            have c39b1 : decide (0 ≤ t159) = true := decide_eq_true c39
            clear c39
            obtain ⟨ji40, hji40⟩ : ∃ j_ : Int, (shl .i64 1 t159) = j_ := ⟨_, rfl⟩
            replace H : (laws_FnNumbersReflectOfAll.j2 kj29 a0 a1 a2 a3 a4 a5 a6 a7 a8 ((Go.bits .xor .i64 t167 t151) != (ji40))) = some r := by first | (rw [hji40] at H; exact H) | (simp only [hji40] at H ⊢; exact H)
            have hji40_ : (IntKind.i64.wrap (1 * 2 ^ min t159.toNat 64)) = ji40 := hji40
            have hji40z : t159 ≤ 64 → (IntKind.i64.wrap (1 * 2 ^ t159.toNat)) = ji40 := shl_small hji40
            have hji40u : (IntKind.i64.wrap (2 ^ min t159.toNat 64)) = ji40 := by have h_ := hji40_; rw [Int.one_mul] at h_; exact h_
            have hji40v : t159 ≤ 64 → (IntKind.i64.wrap (2 ^ t159.toNat)) = ji40 := fun hle_ => by have h_ := hji40z hle_; rw [Int.one_mul] at h_; exact h_
            have hji40y : (wrap64 (1 * 2 ^ min t159.toNat 64)) = ji40 := (i64_w _).symm.trans hji40_
            have hji40x : t159 ≤ 64 → (wrap64 (1 * 2 ^ t159.toNat)) = ji40 := fun h_ => (i64_w _).symm.trans (hji40z h_)
            have H' := Aside0.mk H
            clear H
            go_wp2
            refine Met.intro (hJ_ _ _ ?mg_ ?rel)
            case mg_ => kernel_rfl
            case rel => exact ⟨_, (((Go.bits .xor .i64 t167 t151) != (ji40))), (by first | rfl | (simp; done) | (simp only [← hji40] <;> (first | rfl | simp)) | (simp [*]; done)), H', ⟨by have := HJ16.out; have := HJ29.out; first | omega | exact Nat.le_refl _⟩, ⟨by repeat (first | (with_reducible first | exact HB.out | apply below_alloc | apply pw_below_drewN | apply below_drew1) | exact HB.out)⟩⟩
          · rw [if_neg c39] at H
            exact absurd H (by simp)
        · replace c38 := Bool.eq_false_iff.mpr c38
          subst c38
          have H1 : (laws_FnNumbersReflectOfAll.j2 kj29 a0 a1 a2 a3 a4 a5 a6 a7 a8 false) = some r := by rw [if_neg (show ¬ (false = true) by decide)] at H; exact H
          clear H
          have H := H1
          clear H1
          have H' := Aside0.mk H
          clear H
          go_wp2
          refine Met.intro (hJ_ _ _ ?mg_ ?rel)
          case mg_ => kernel_rfl
          case rel => exact ⟨_, (false), (by first | rfl | (simp; done) | (simp [*]; done)), H', ⟨by have := HJ16.out; have := HJ29.out; first | omega | exact Nat.le_refl _⟩, ⟨by repeat (first | (with_reducible first | exact HB.out | apply below_alloc | apply pw_below_drewN | apply below_drew1) | exact HB.out)⟩⟩
      case rest =>
        intro f_ wc hcut
        dsimp only [maskF] at hcut ⊢
        generalize f_ 182 = u182 at hcut ⊢
        repeat revert ‹_›
        intro HP0_
        exact HP0_.out

set_option maxHeartbeats 8000000 in
set_option maxRecDepth 100000 in
theorem laws_FnNumbersReflectOfAll.c4 : laws_FnNumbersReflectOfAll.c3.1 := by
  intro k a0 a1 a2 a3 a4 a5 a6 a7 a8 r w _ t151 t153 t154 A12 t155 t156 A13 t157 t158 A14 t159 t160 A15 t161 t162 A16 _ _ _ _ _ _ _ _ _ _ kj16 HJ16 _ _ J_ K_ hK_ A11 hJ_ t163 t164 A28 t165 t166 A29 _ _ _ _ HB kj29 HJ29 t167 t168 A36 HC37 nd _ _ _ _ f_ wc u182 hcut
  clear HC37
  try clear c1
  try clear c2
  try clear p2
  try clear c3
  try clear c4
  try clear c5
  try clear c6
  try clear p6
  try clear c7
  try clear c8
  try clear c9
  try clear c10
  try clear c10b0
  try clear c10b1
  try clear c18
  try clear c18b0
  try clear c18b1
  try clear c18b2
  try clear c19
  try clear c19b0
  try clear c19b1
  try clear c20
  try clear c20b0
  try clear c20b1
  try clear c20b2
  try clear c21
  try clear c21b0
  try clear c21b1
  try clear c22
  try clear c22b0
  try clear c22b1
  try clear c22b2
  try clear c23
  try clear c23b0
  try clear c23b1
  try clear c24
  try clear c24b0
  try clear c24b1
  try clear c24b2
  try clear c25
  try clear c27
  try clear c31
  try clear c32
  try clear c32b0
  try clear c32b1
  try clear c33
  try clear c34
  try clear c35
  try clear c38
  try clear c39
  try clear c39b0
  try clear c39b1
  try clear p2
  try clear p6
  obtain ⟨kq, x182_36, rfl, HA, HJ36, HB⟩ := hcut
  cases kq with
  | zero => exact absurd HA.out (by simp [laws_FnNumbersReflectOfAll.j2])
  | succ kj36 =>
    have H := HA.out
    clear HA
    simp only [laws_FnNumbersReflectOfAll.j2] at H
    by_cases c41 : x182_36 = true
    · subst c41
      have H1 : (some false) = some r := by rw [if_pos rfl] at H; exact H
      clear H
      have H := H1
      clear H1
      obtain rfl := Option.some.inj H
      go_wp2
      go_ret
      exact ⟨by first | rfl | (simp [errW_none, errW_some] <;> rfl) | (simp [*, errW_none, errW_some] <;> rfl), by repeat (first | (with_reducible first | exact HB.out | apply below_alloc | apply pw_below_drewN | apply below_drew1) | exact HB.out)⟩
    · replace c41 := Bool.eq_false_iff.mpr c41
      subst c41
      have H1 : ((impl_ReflectedText.f kj36 a0 40).bind fun bt169 => ((impl_RankOfText.f kj36 bt169.1).bind fun bt171 => (if bt169.2 = true then (if bt171.2 = true then (if bt171.1 = a0 then (if (bt169.1.size : Int) = 40 then (laws_FnNumbersReflectOfAll.j3 kj36 a1 a2 a3 a4 a5 a6 a7 a8) else (some false)) else (some false)) else (some false)) else (laws_FnNumbersReflectOfAll.j3 kj36 a1 a2 a3 a4 a5 a6 a7 a8)))) = some r := by rw [if_neg (show ¬ (false = true) by decide)] at H; exact H
      clear H
      have H := H1
      clear H1
      replace H := Option.bind_eq_some_iff.mp H
      obtain ⟨⟨t169, t170⟩, A420, H⟩ := H
      replace H : ((impl_RankOfText.f kj36 t169).bind fun bt171 => (if t170 = true then (if bt171.2 = true then (if bt171.1 = a0 then (if (t169.size : Int) = 40 then (laws_FnNumbersReflectOfAll.j3 kj36 a1 a2 a3 a4 a5 a6 a7 a8) else (some false)) else (some false)) else (some false)) else (laws_FnNumbersReflectOfAll.j3 kj36 a1 a2 a3 a4 a5 a6 a7 a8))) = some r := H
      have A42 := Aside0.mk A420
      clear A420
      replace H := Option.bind_eq_some_iff.mp H
      obtain ⟨⟨t171, t172⟩, A430, H⟩ := H
      replace H : (if t170 = true then (if t172 = true then (if t171 = a0 then (if (t169.size : Int) = 40 then (laws_FnNumbersReflectOfAll.j3 kj36 a1 a2 a3 a4 a5 a6 a7 a8) else (some false)) else (some false)) else (some false)) else (laws_FnNumbersReflectOfAll.j3 kj36 a1 a2 a3 a4 a5 a6 a7 a8)) = some r := H
      have A43 := Aside0.mk A430
      clear A430
      by_cases c44 : t170 = true
      · subst c44
        have H1 : (if t172 = true then (if t171 = a0 then (if (t169.size : Int) = 40 then (laws_FnNumbersReflectOfAll.j3 kj36 a1 a2 a3 a4 a5 a6 a7 a8) else (some false)) else (some false)) else (some false)) = some r := by rw [if_pos rfl] at H; exact H
        clear H
        have H := H1
        clear H1
        by_cases c45 : t172 = true
        · subst c45
          have H1 : (if t171 = a0 then (if (t169.size : Int) = 40 then (laws_FnNumbersReflectOfAll.j3 kj36 a1 a2 a3 a4 a5 a6 a7 a8) else (some false)) else (some false)) = some r := by rw [if_pos rfl] at H; exact H
          clear H
          have H := H1
          clear H1
          by_cases c46 : t171 = a0
          · rw [if_pos c46] at H
            have c46b0 : (t171 == a0) = true := beq_iff_eq.mpr c46
            have c46b1 : (t171 != a0) = false := bne_eq_false_iff_eq.mpr c46
            clear c46
            by_cases c47 : (t169.size : Int) = 40
            · rw [if_pos c47] at H
              have c47b0 : ((t169.size : Int) == 40) = true := beq_iff_eq.mpr c47
              have c47b1 : ((t169.size : Int) != 40) = false := bne_eq_false_iff_eq.mpr c47
              clear c47
              have H' := Aside0.mk H
              clear H
              go_wp2_with (first | ((with_reducible refine gate_callee (f := 11) rfl ?_); refine goesL_ (some 185) rfl rfl Tryd.func11 (by kernel_rfl) rfl #[.int .i64 a0, .int .i64 40] rfl (by (try simp only [List.map_toArray, List.map_cons, List.map_nil]); first | done | rfl | (simp only [List.length_drop, List.length_take]; rfl)) ?_; (with_reducible refine (impl_ReflectedText.calls kj36 a0 40 t169 true _ A42.out).mono ?_); rintro e w48 ⟨rfl, hb⟩; refine ⟨_, rfl, ?_⟩; have n0_ := Aside0.mk (below_step (by repeat (first | (with_reducible first | exact HB.out | apply below_alloc | apply pw_below_drewN | apply below_drew1) | exact HB.out)) hb); clear HB; have HB := n0_; clear n0_; (try clear hb); (try clear hb2); (try clear hk); (try clear hi)) | ((with_reducible refine gate_callee (f := 12) rfl ?_); refine goesL_ (some 190) rfl rfl Tryd.func12 (by kernel_rfl) rfl #[.string t169] rfl (by (try simp only [List.map_toArray, List.map_cons, List.map_nil]); first | done | rfl | (simp only [List.length_drop, List.length_take]; rfl)) ?_; (with_reducible refine (impl_RankOfText.calls kj36 t169 t171 true _ A43.out).mono ?_); rintro e w49 ⟨rfl, hb⟩; refine ⟨_, rfl, ?_⟩; have n0_ := Aside0.mk (below_step (by repeat (first | (with_reducible first | exact HB.out | apply below_alloc | apply pw_below_drewN | apply below_drew1) | exact HB.out)) hb); clear HB; have HB := n0_; clear n0_; (try clear hb); (try clear hb2); (try clear hk); (try clear hi)))
              refine Met.intro (hJ_ _ _ ?mg_ ?rel)
              case mg_ => kernel_rfl
              case rel => exact ⟨_, H', ⟨by have := HJ16.out; have := HJ29.out; have := HJ36.out; first | omega | exact Nat.le_refl _⟩, ⟨by repeat (first | (with_reducible first | exact HB.out | apply below_alloc | apply pw_below_drewN | apply below_drew1) | exact HB.out)⟩⟩
            · rw [if_neg c47] at H
              have c47b0 : ((t169.size : Int) == 40) = false := beq_eq_false_iff_ne.mpr c47
              have c47b1 : ((t169.size : Int) != 40) = true := bne_iff_ne.mpr c47
              obtain rfl := Option.some.inj H
              go_wp2_with (first | ((with_reducible refine gate_callee (f := 11) rfl ?_); refine goesL_ (some 185) rfl rfl Tryd.func11 (by kernel_rfl) rfl #[.int .i64 a0, .int .i64 40] rfl (by (try simp only [List.map_toArray, List.map_cons, List.map_nil]); first | done | rfl | (simp only [List.length_drop, List.length_take]; rfl)) ?_; (with_reducible refine (impl_ReflectedText.calls kj36 a0 40 t169 true _ A42.out).mono ?_); rintro e w50 ⟨rfl, hb⟩; refine ⟨_, rfl, ?_⟩; have n0_ := Aside0.mk (below_step (by repeat (first | (with_reducible first | exact HB.out | apply below_alloc | apply pw_below_drewN | apply below_drew1) | exact HB.out)) hb); clear HB; have HB := n0_; clear n0_; (try clear hb); (try clear hb2); (try clear hk); (try clear hi)) | ((with_reducible refine gate_callee (f := 12) rfl ?_); refine goesL_ (some 190) rfl rfl Tryd.func12 (by kernel_rfl) rfl #[.string t169] rfl (by (try simp only [List.map_toArray, List.map_cons, List.map_nil]); first | done | rfl | (simp only [List.length_drop, List.length_take]; rfl)) ?_; (with_reducible refine (impl_RankOfText.calls kj36 t169 t171 true _ A43.out).mono ?_); rintro e w51 ⟨rfl, hb⟩; refine ⟨_, rfl, ?_⟩; have n0_ := Aside0.mk (below_step (by repeat (first | (with_reducible first | exact HB.out | apply below_alloc | apply pw_below_drewN | apply below_drew1) | exact HB.out)) hb); clear HB; have HB := n0_; clear n0_; (try clear hb); (try clear hb2); (try clear hk); (try clear hi)))
              go_ret
              exact ⟨by first | rfl | (simp [errW_none, errW_some] <;> rfl) | (simp [*, errW_none, errW_some] <;> rfl), by repeat (first | (with_reducible first | exact HB.out | apply below_alloc | apply pw_below_drewN | apply below_drew1) | exact HB.out)⟩
          · rw [if_neg c46] at H
            have c46b0 : (t171 == a0) = false := beq_eq_false_iff_ne.mpr c46
            have c46b1 : (t171 != a0) = true := bne_iff_ne.mpr c46
            obtain rfl := Option.some.inj H
            go_wp2_with (first | ((with_reducible refine gate_callee (f := 11) rfl ?_); refine goesL_ (some 185) rfl rfl Tryd.func11 (by kernel_rfl) rfl #[.int .i64 a0, .int .i64 40] rfl (by (try simp only [List.map_toArray, List.map_cons, List.map_nil]); first | done | rfl | (simp only [List.length_drop, List.length_take]; rfl)) ?_; (with_reducible refine (impl_ReflectedText.calls kj36 a0 40 t169 true _ A42.out).mono ?_); rintro e w52 ⟨rfl, hb⟩; refine ⟨_, rfl, ?_⟩; have n0_ := Aside0.mk (below_step (by repeat (first | (with_reducible first | exact HB.out | apply below_alloc | apply pw_below_drewN | apply below_drew1) | exact HB.out)) hb); clear HB; have HB := n0_; clear n0_; (try clear hb); (try clear hb2); (try clear hk); (try clear hi)) | ((with_reducible refine gate_callee (f := 12) rfl ?_); refine goesL_ (some 190) rfl rfl Tryd.func12 (by kernel_rfl) rfl #[.string t169] rfl (by (try simp only [List.map_toArray, List.map_cons, List.map_nil]); first | done | rfl | (simp only [List.length_drop, List.length_take]; rfl)) ?_; (with_reducible refine (impl_RankOfText.calls kj36 t169 t171 true _ A43.out).mono ?_); rintro e w53 ⟨rfl, hb⟩; refine ⟨_, rfl, ?_⟩; have n0_ := Aside0.mk (below_step (by repeat (first | (with_reducible first | exact HB.out | apply below_alloc | apply pw_below_drewN | apply below_drew1) | exact HB.out)) hb); clear HB; have HB := n0_; clear n0_; (try clear hb); (try clear hb2); (try clear hk); (try clear hi)))
            go_ret
            exact ⟨by first | rfl | (simp [errW_none, errW_some] <;> rfl) | (simp [*, errW_none, errW_some] <;> rfl), by repeat (first | (with_reducible first | exact HB.out | apply below_alloc | apply pw_below_drewN | apply below_drew1) | exact HB.out)⟩
        · replace c45 := Bool.eq_false_iff.mpr c45
          subst c45
          have H1 : (some false) = some r := by rw [if_neg (show ¬ (false = true) by decide)] at H; exact H
          clear H
          have H := H1
          clear H1
          obtain rfl := Option.some.inj H
          go_wp2_with (first | ((with_reducible refine gate_callee (f := 11) rfl ?_); refine goesL_ (some 185) rfl rfl Tryd.func11 (by kernel_rfl) rfl #[.int .i64 a0, .int .i64 40] rfl (by (try simp only [List.map_toArray, List.map_cons, List.map_nil]); first | done | rfl | (simp only [List.length_drop, List.length_take]; rfl)) ?_; (with_reducible refine (impl_ReflectedText.calls kj36 a0 40 t169 true _ A42.out).mono ?_); rintro e w54 ⟨rfl, hb⟩; refine ⟨_, rfl, ?_⟩; have n0_ := Aside0.mk (below_step (by repeat (first | (with_reducible first | exact HB.out | apply below_alloc | apply pw_below_drewN | apply below_drew1) | exact HB.out)) hb); clear HB; have HB := n0_; clear n0_; (try clear hb); (try clear hb2); (try clear hk); (try clear hi)) | ((with_reducible refine gate_callee (f := 12) rfl ?_); refine goesL_ (some 190) rfl rfl Tryd.func12 (by kernel_rfl) rfl #[.string t169] rfl (by (try simp only [List.map_toArray, List.map_cons, List.map_nil]); first | done | rfl | (simp only [List.length_drop, List.length_take]; rfl)) ?_; (with_reducible refine (impl_RankOfText.calls kj36 t169 t171 false _ A43.out).mono ?_); rintro e w55 ⟨rfl, hb⟩; refine ⟨_, rfl, ?_⟩; have n0_ := Aside0.mk (below_step (by repeat (first | (with_reducible first | exact HB.out | apply below_alloc | apply pw_below_drewN | apply below_drew1) | exact HB.out)) hb); clear HB; have HB := n0_; clear n0_; (try clear hb); (try clear hb2); (try clear hk); (try clear hi)))
          go_ret
          exact ⟨by first | rfl | (simp [errW_none, errW_some] <;> rfl) | (simp [*, errW_none, errW_some] <;> rfl), by repeat (first | (with_reducible first | exact HB.out | apply below_alloc | apply pw_below_drewN | apply below_drew1) | exact HB.out)⟩
      · replace c44 := Bool.eq_false_iff.mpr c44
        subst c44
        have H1 : (laws_FnNumbersReflectOfAll.j3 kj36 a1 a2 a3 a4 a5 a6 a7 a8) = some r := by rw [if_neg (show ¬ (false = true) by decide)] at H; exact H
        clear H
        have H := H1
        clear H1
        have H' := Aside0.mk H
        clear H
        go_wp2_with (first | ((with_reducible refine gate_callee (f := 11) rfl ?_); refine goesL_ (some 185) rfl rfl Tryd.func11 (by kernel_rfl) rfl #[.int .i64 a0, .int .i64 40] rfl (by (try simp only [List.map_toArray, List.map_cons, List.map_nil]); first | done | rfl | (simp only [List.length_drop, List.length_take]; rfl)) ?_; (with_reducible refine (impl_ReflectedText.calls kj36 a0 40 t169 false _ A42.out).mono ?_); rintro e w56 ⟨rfl, hb⟩; refine ⟨_, rfl, ?_⟩; have n0_ := Aside0.mk (below_step (by repeat (first | (with_reducible first | exact HB.out | apply below_alloc | apply pw_below_drewN | apply below_drew1) | exact HB.out)) hb); clear HB; have HB := n0_; clear n0_; (try clear hb); (try clear hb2); (try clear hk); (try clear hi)) | ((with_reducible refine gate_callee (f := 12) rfl ?_); refine goesL_ (some 190) rfl rfl Tryd.func12 (by kernel_rfl) rfl #[.string t169] rfl (by (try simp only [List.map_toArray, List.map_cons, List.map_nil]); first | done | rfl | (simp only [List.length_drop, List.length_take]; rfl)) ?_; (with_reducible refine (impl_RankOfText.calls kj36 t169 t171 t172 _ A43.out).mono ?_); rintro e w57 ⟨rfl, hb⟩; refine ⟨_, rfl, ?_⟩; have n0_ := Aside0.mk (below_step (by repeat (first | (with_reducible first | exact HB.out | apply below_alloc | apply pw_below_drewN | apply below_drew1) | exact HB.out)) hb); clear HB; have HB := n0_; clear n0_; (try clear hb); (try clear hb2); (try clear hk); (try clear hi)))
        refine Met.intro (hJ_ _ _ ?mg_ ?rel)
        case mg_ => kernel_rfl
        case rel => exact ⟨_, H', ⟨by have := HJ16.out; have := HJ29.out; have := HJ36.out; first | omega | exact Nat.le_refl _⟩, ⟨by repeat (first | (with_reducible first | exact HB.out | apply below_alloc | apply pw_below_drewN | apply below_drew1) | exact HB.out)⟩⟩

set_option maxHeartbeats 8000000 in
set_option maxRecDepth 100000 in
def laws_FnNumbersReflectOfAll.c5 : PSigma fun P0_ : Prop => Hole P0_ → laws_FnNumbersReflectOfAll.c1.2.1 := by
  refine' ⟨_, fun HP0_ => _⟩
  rotate_left 1
  intro k a0 a1 a2 a3 a4 a5 a6 a7 a8 r w _ t151 t152 A11 t153 t154 A12 t155 t156 A13 t157 t158 A14 t159 t160 A15 t161 t162 A16 _ _ _ _ _ _ nd _ _ HB kj16 HJ16 HC26 _ _ f_ wc hcut
  clear HC26
  try clear c1
  try clear c2
  try clear p2
  try clear c3
  try clear c4
  try clear c5
  try clear c6
  try clear p6
  try clear c7
  try clear c8
  try clear c9
  try clear c10
  try clear c10b0
  try clear c10b1
  try clear c11
  try clear c12
  try clear c18
  try clear c18b0
  try clear c18b1
  try clear c18b2
  try clear c19
  try clear c19b0
  try clear c19b1
  try clear c20
  try clear c20b0
  try clear c20b1
  try clear c20b2
  try clear c21
  try clear c21b0
  try clear c21b1
  try clear c22
  try clear c22b0
  try clear c22b1
  try clear c22b2
  try clear c23
  try clear c23b0
  try clear c23b1
  try clear c24
  try clear c24b0
  try clear c24b1
  try clear c24b2
  try clear c25
  try clear c27
  try clear c31
  try clear c32
  try clear c32b0
  try clear c32b1
  try clear c33
  try clear c34
  try clear c35
  try clear c38
  try clear c39
  try clear c39b0
  try clear c39b1
  try clear c41
  try clear c44
  try clear c45
  try clear c46
  try clear c46b0
  try clear c46b1
  try clear c47
  try clear c47b0
  try clear c47b1
  try clear p2
  try clear p6
  obtain ⟨kq, HA, HJ25, HB⟩ := hcut
  cases kq with
  | zero => exact absurd HA.out (by simp [laws_FnNumbersReflectOfAll.j3])
  | succ kj25 =>
    have H := HA.out
    clear HA
    simp only [laws_FnNumbersReflectOfAll.j3] at H
    replace H := Option.bind_eq_some_iff.mp H
    obtain ⟨⟨t173, t174⟩, A580, H⟩ := H
    replace H : ((spec_PlainSum.f a1 a2).bind fun bt175 => ((impl_TimesChanged.f kj25 a3 a4 a5).bind fun bt177 => ((spec_TimesChanged.f kj25 a3 a4 a5).bind fun bt179 => ((impl_ReflectedText.f kj25 a6 a7).bind fun bt181 => ((spec_ReflectedText.f kj25 a6 a7).bind fun bt183 => ((impl_RankOfText.f kj25 a8).bind fun bt185 => ((spec_RankOfText.f kj25 a8).bind fun bt187 => (if (t174 != bt175.2) = true then (laws_FnNumbersReflectOfAll.j4 kj25 a1 a2 a3 a4 a5 a6 a7 a8 t173 t174 bt177.1 bt177.2 bt181.1 bt181.2 bt185.1 bt185.2 true) else (if t173 = bt175.1 then (if (bt177.2 != bt179.2) = true then (laws_FnNumbersReflectOfAll.j4 kj25 a1 a2 a3 a4 a5 a6 a7 a8 t173 t174 bt177.1 bt177.2 bt181.1 bt181.2 bt185.1 bt185.2 true) else (if bt177.1 = bt179.1 then (if (bt181.2 != bt183.2) = true then (laws_FnNumbersReflectOfAll.j4 kj25 a1 a2 a3 a4 a5 a6 a7 a8 t173 t174 bt177.1 bt177.2 bt181.1 bt181.2 bt185.1 bt185.2 true) else (if bt181.1.toList = bt183.1.toList then (if (bt185.2 != bt187.2) = true then (laws_FnNumbersReflectOfAll.j4 kj25 a1 a2 a3 a4 a5 a6 a7 a8 t173 t174 bt177.1 bt177.2 bt181.1 bt181.2 bt185.1 bt185.2 true) else (laws_FnNumbersReflectOfAll.j4 kj25 a1 a2 a3 a4 a5 a6 a7 a8 t173 t174 bt177.1 bt177.2 bt181.1 bt181.2 bt185.1 bt185.2 (bt185.1 != bt187.1))) else (laws_FnNumbersReflectOfAll.j4 kj25 a1 a2 a3 a4 a5 a6 a7 a8 t173 t174 bt177.1 bt177.2 bt181.1 bt181.2 bt185.1 bt185.2 true))) else (laws_FnNumbersReflectOfAll.j4 kj25 a1 a2 a3 a4 a5 a6 a7 a8 t173 t174 bt177.1 bt177.2 bt181.1 bt181.2 bt185.1 bt185.2 true))) else (laws_FnNumbersReflectOfAll.j4 kj25 a1 a2 a3 a4 a5 a6 a7 a8 t173 t174 bt177.1 bt177.2 bt181.1 bt181.2 bt185.1 bt185.2 true)))))))))) = some r := H
    have A58 := Aside0.mk A580
    clear A580
    replace H := Option.bind_eq_some_iff.mp H
    obtain ⟨⟨t175, t176⟩, A590, H⟩ := H
    replace H : ((impl_TimesChanged.f kj25 a3 a4 a5).bind fun bt177 => ((spec_TimesChanged.f kj25 a3 a4 a5).bind fun bt179 => ((impl_ReflectedText.f kj25 a6 a7).bind fun bt181 => ((spec_ReflectedText.f kj25 a6 a7).bind fun bt183 => ((impl_RankOfText.f kj25 a8).bind fun bt185 => ((spec_RankOfText.f kj25 a8).bind fun bt187 => (if (t174 != t176) = true then (laws_FnNumbersReflectOfAll.j4 kj25 a1 a2 a3 a4 a5 a6 a7 a8 t173 t174 bt177.1 bt177.2 bt181.1 bt181.2 bt185.1 bt185.2 true) else (if t173 = t175 then (if (bt177.2 != bt179.2) = true then (laws_FnNumbersReflectOfAll.j4 kj25 a1 a2 a3 a4 a5 a6 a7 a8 t173 t174 bt177.1 bt177.2 bt181.1 bt181.2 bt185.1 bt185.2 true) else (if bt177.1 = bt179.1 then (if (bt181.2 != bt183.2) = true then (laws_FnNumbersReflectOfAll.j4 kj25 a1 a2 a3 a4 a5 a6 a7 a8 t173 t174 bt177.1 bt177.2 bt181.1 bt181.2 bt185.1 bt185.2 true) else (if bt181.1.toList = bt183.1.toList then (if (bt185.2 != bt187.2) = true then (laws_FnNumbersReflectOfAll.j4 kj25 a1 a2 a3 a4 a5 a6 a7 a8 t173 t174 bt177.1 bt177.2 bt181.1 bt181.2 bt185.1 bt185.2 true) else (laws_FnNumbersReflectOfAll.j4 kj25 a1 a2 a3 a4 a5 a6 a7 a8 t173 t174 bt177.1 bt177.2 bt181.1 bt181.2 bt185.1 bt185.2 (bt185.1 != bt187.1))) else (laws_FnNumbersReflectOfAll.j4 kj25 a1 a2 a3 a4 a5 a6 a7 a8 t173 t174 bt177.1 bt177.2 bt181.1 bt181.2 bt185.1 bt185.2 true))) else (laws_FnNumbersReflectOfAll.j4 kj25 a1 a2 a3 a4 a5 a6 a7 a8 t173 t174 bt177.1 bt177.2 bt181.1 bt181.2 bt185.1 bt185.2 true))) else (laws_FnNumbersReflectOfAll.j4 kj25 a1 a2 a3 a4 a5 a6 a7 a8 t173 t174 bt177.1 bt177.2 bt181.1 bt181.2 bt185.1 bt185.2 true))))))))) = some r := H
    have A59 := Aside0.mk A590
    clear A590
    replace H := Option.bind_eq_some_iff.mp H
    obtain ⟨⟨t177, t178⟩, A600, H⟩ := H
    replace H : ((spec_TimesChanged.f kj25 a3 a4 a5).bind fun bt179 => ((impl_ReflectedText.f kj25 a6 a7).bind fun bt181 => ((spec_ReflectedText.f kj25 a6 a7).bind fun bt183 => ((impl_RankOfText.f kj25 a8).bind fun bt185 => ((spec_RankOfText.f kj25 a8).bind fun bt187 => (if (t174 != t176) = true then (laws_FnNumbersReflectOfAll.j4 kj25 a1 a2 a3 a4 a5 a6 a7 a8 t173 t174 t177 t178 bt181.1 bt181.2 bt185.1 bt185.2 true) else (if t173 = t175 then (if (t178 != bt179.2) = true then (laws_FnNumbersReflectOfAll.j4 kj25 a1 a2 a3 a4 a5 a6 a7 a8 t173 t174 t177 t178 bt181.1 bt181.2 bt185.1 bt185.2 true) else (if t177 = bt179.1 then (if (bt181.2 != bt183.2) = true then (laws_FnNumbersReflectOfAll.j4 kj25 a1 a2 a3 a4 a5 a6 a7 a8 t173 t174 t177 t178 bt181.1 bt181.2 bt185.1 bt185.2 true) else (if bt181.1.toList = bt183.1.toList then (if (bt185.2 != bt187.2) = true then (laws_FnNumbersReflectOfAll.j4 kj25 a1 a2 a3 a4 a5 a6 a7 a8 t173 t174 t177 t178 bt181.1 bt181.2 bt185.1 bt185.2 true) else (laws_FnNumbersReflectOfAll.j4 kj25 a1 a2 a3 a4 a5 a6 a7 a8 t173 t174 t177 t178 bt181.1 bt181.2 bt185.1 bt185.2 (bt185.1 != bt187.1))) else (laws_FnNumbersReflectOfAll.j4 kj25 a1 a2 a3 a4 a5 a6 a7 a8 t173 t174 t177 t178 bt181.1 bt181.2 bt185.1 bt185.2 true))) else (laws_FnNumbersReflectOfAll.j4 kj25 a1 a2 a3 a4 a5 a6 a7 a8 t173 t174 t177 t178 bt181.1 bt181.2 bt185.1 bt185.2 true))) else (laws_FnNumbersReflectOfAll.j4 kj25 a1 a2 a3 a4 a5 a6 a7 a8 t173 t174 t177 t178 bt181.1 bt181.2 bt185.1 bt185.2 true)))))))) = some r := H
    have A60 := Aside0.mk A600
    clear A600
    replace H := Option.bind_eq_some_iff.mp H
    obtain ⟨⟨t179, t180⟩, A610, H⟩ := H
    replace H : ((impl_ReflectedText.f kj25 a6 a7).bind fun bt181 => ((spec_ReflectedText.f kj25 a6 a7).bind fun bt183 => ((impl_RankOfText.f kj25 a8).bind fun bt185 => ((spec_RankOfText.f kj25 a8).bind fun bt187 => (if (t174 != t176) = true then (laws_FnNumbersReflectOfAll.j4 kj25 a1 a2 a3 a4 a5 a6 a7 a8 t173 t174 t177 t178 bt181.1 bt181.2 bt185.1 bt185.2 true) else (if t173 = t175 then (if (t178 != t180) = true then (laws_FnNumbersReflectOfAll.j4 kj25 a1 a2 a3 a4 a5 a6 a7 a8 t173 t174 t177 t178 bt181.1 bt181.2 bt185.1 bt185.2 true) else (if t177 = t179 then (if (bt181.2 != bt183.2) = true then (laws_FnNumbersReflectOfAll.j4 kj25 a1 a2 a3 a4 a5 a6 a7 a8 t173 t174 t177 t178 bt181.1 bt181.2 bt185.1 bt185.2 true) else (if bt181.1.toList = bt183.1.toList then (if (bt185.2 != bt187.2) = true then (laws_FnNumbersReflectOfAll.j4 kj25 a1 a2 a3 a4 a5 a6 a7 a8 t173 t174 t177 t178 bt181.1 bt181.2 bt185.1 bt185.2 true) else (laws_FnNumbersReflectOfAll.j4 kj25 a1 a2 a3 a4 a5 a6 a7 a8 t173 t174 t177 t178 bt181.1 bt181.2 bt185.1 bt185.2 (bt185.1 != bt187.1))) else (laws_FnNumbersReflectOfAll.j4 kj25 a1 a2 a3 a4 a5 a6 a7 a8 t173 t174 t177 t178 bt181.1 bt181.2 bt185.1 bt185.2 true))) else (laws_FnNumbersReflectOfAll.j4 kj25 a1 a2 a3 a4 a5 a6 a7 a8 t173 t174 t177 t178 bt181.1 bt181.2 bt185.1 bt185.2 true))) else (laws_FnNumbersReflectOfAll.j4 kj25 a1 a2 a3 a4 a5 a6 a7 a8 t173 t174 t177 t178 bt181.1 bt181.2 bt185.1 bt185.2 true))))))) = some r := H
    have A61 := Aside0.mk A610
    clear A610
    replace H := Option.bind_eq_some_iff.mp H
    obtain ⟨⟨t181, t182⟩, A620, H⟩ := H
    replace H : ((spec_ReflectedText.f kj25 a6 a7).bind fun bt183 => ((impl_RankOfText.f kj25 a8).bind fun bt185 => ((spec_RankOfText.f kj25 a8).bind fun bt187 => (if (t174 != t176) = true then (laws_FnNumbersReflectOfAll.j4 kj25 a1 a2 a3 a4 a5 a6 a7 a8 t173 t174 t177 t178 t181 t182 bt185.1 bt185.2 true) else (if t173 = t175 then (if (t178 != t180) = true then (laws_FnNumbersReflectOfAll.j4 kj25 a1 a2 a3 a4 a5 a6 a7 a8 t173 t174 t177 t178 t181 t182 bt185.1 bt185.2 true) else (if t177 = t179 then (if (t182 != bt183.2) = true then (laws_FnNumbersReflectOfAll.j4 kj25 a1 a2 a3 a4 a5 a6 a7 a8 t173 t174 t177 t178 t181 t182 bt185.1 bt185.2 true) else (if t181.toList = bt183.1.toList then (if (bt185.2 != bt187.2) = true then (laws_FnNumbersReflectOfAll.j4 kj25 a1 a2 a3 a4 a5 a6 a7 a8 t173 t174 t177 t178 t181 t182 bt185.1 bt185.2 true) else (laws_FnNumbersReflectOfAll.j4 kj25 a1 a2 a3 a4 a5 a6 a7 a8 t173 t174 t177 t178 t181 t182 bt185.1 bt185.2 (bt185.1 != bt187.1))) else (laws_FnNumbersReflectOfAll.j4 kj25 a1 a2 a3 a4 a5 a6 a7 a8 t173 t174 t177 t178 t181 t182 bt185.1 bt185.2 true))) else (laws_FnNumbersReflectOfAll.j4 kj25 a1 a2 a3 a4 a5 a6 a7 a8 t173 t174 t177 t178 t181 t182 bt185.1 bt185.2 true))) else (laws_FnNumbersReflectOfAll.j4 kj25 a1 a2 a3 a4 a5 a6 a7 a8 t173 t174 t177 t178 t181 t182 bt185.1 bt185.2 true)))))) = some r := H
    have A62 := Aside0.mk A620
    clear A620
    replace H := Option.bind_eq_some_iff.mp H
    obtain ⟨⟨t183, t184⟩, A630, H⟩ := H
    replace H : ((impl_RankOfText.f kj25 a8).bind fun bt185 => ((spec_RankOfText.f kj25 a8).bind fun bt187 => (if (t174 != t176) = true then (laws_FnNumbersReflectOfAll.j4 kj25 a1 a2 a3 a4 a5 a6 a7 a8 t173 t174 t177 t178 t181 t182 bt185.1 bt185.2 true) else (if t173 = t175 then (if (t178 != t180) = true then (laws_FnNumbersReflectOfAll.j4 kj25 a1 a2 a3 a4 a5 a6 a7 a8 t173 t174 t177 t178 t181 t182 bt185.1 bt185.2 true) else (if t177 = t179 then (if (t182 != t184) = true then (laws_FnNumbersReflectOfAll.j4 kj25 a1 a2 a3 a4 a5 a6 a7 a8 t173 t174 t177 t178 t181 t182 bt185.1 bt185.2 true) else (if t181.toList = t183.toList then (if (bt185.2 != bt187.2) = true then (laws_FnNumbersReflectOfAll.j4 kj25 a1 a2 a3 a4 a5 a6 a7 a8 t173 t174 t177 t178 t181 t182 bt185.1 bt185.2 true) else (laws_FnNumbersReflectOfAll.j4 kj25 a1 a2 a3 a4 a5 a6 a7 a8 t173 t174 t177 t178 t181 t182 bt185.1 bt185.2 (bt185.1 != bt187.1))) else (laws_FnNumbersReflectOfAll.j4 kj25 a1 a2 a3 a4 a5 a6 a7 a8 t173 t174 t177 t178 t181 t182 bt185.1 bt185.2 true))) else (laws_FnNumbersReflectOfAll.j4 kj25 a1 a2 a3 a4 a5 a6 a7 a8 t173 t174 t177 t178 t181 t182 bt185.1 bt185.2 true))) else (laws_FnNumbersReflectOfAll.j4 kj25 a1 a2 a3 a4 a5 a6 a7 a8 t173 t174 t177 t178 t181 t182 bt185.1 bt185.2 true))))) = some r := H
    have A63 := Aside0.mk A630
    clear A630
    replace H := Option.bind_eq_some_iff.mp H
    obtain ⟨⟨t185, t186⟩, A640, H⟩ := H
    replace H : ((spec_RankOfText.f kj25 a8).bind fun bt187 => (if (t174 != t176) = true then (laws_FnNumbersReflectOfAll.j4 kj25 a1 a2 a3 a4 a5 a6 a7 a8 t173 t174 t177 t178 t181 t182 t185 t186 true) else (if t173 = t175 then (if (t178 != t180) = true then (laws_FnNumbersReflectOfAll.j4 kj25 a1 a2 a3 a4 a5 a6 a7 a8 t173 t174 t177 t178 t181 t182 t185 t186 true) else (if t177 = t179 then (if (t182 != t184) = true then (laws_FnNumbersReflectOfAll.j4 kj25 a1 a2 a3 a4 a5 a6 a7 a8 t173 t174 t177 t178 t181 t182 t185 t186 true) else (if t181.toList = t183.toList then (if (t186 != bt187.2) = true then (laws_FnNumbersReflectOfAll.j4 kj25 a1 a2 a3 a4 a5 a6 a7 a8 t173 t174 t177 t178 t181 t182 t185 t186 true) else (laws_FnNumbersReflectOfAll.j4 kj25 a1 a2 a3 a4 a5 a6 a7 a8 t173 t174 t177 t178 t181 t182 t185 t186 (t185 != bt187.1))) else (laws_FnNumbersReflectOfAll.j4 kj25 a1 a2 a3 a4 a5 a6 a7 a8 t173 t174 t177 t178 t181 t182 t185 t186 true))) else (laws_FnNumbersReflectOfAll.j4 kj25 a1 a2 a3 a4 a5 a6 a7 a8 t173 t174 t177 t178 t181 t182 t185 t186 true))) else (laws_FnNumbersReflectOfAll.j4 kj25 a1 a2 a3 a4 a5 a6 a7 a8 t173 t174 t177 t178 t181 t182 t185 t186 true)))) = some r := H
    have A64 := Aside0.mk A640
    clear A640
    replace H := Option.bind_eq_some_iff.mp H
    obtain ⟨⟨t187, t188⟩, A650, H⟩ := H
    replace H : (if (t174 != t176) = true then (laws_FnNumbersReflectOfAll.j4 kj25 a1 a2 a3 a4 a5 a6 a7 a8 t173 t174 t177 t178 t181 t182 t185 t186 true) else (if t173 = t175 then (if (t178 != t180) = true then (laws_FnNumbersReflectOfAll.j4 kj25 a1 a2 a3 a4 a5 a6 a7 a8 t173 t174 t177 t178 t181 t182 t185 t186 true) else (if t177 = t179 then (if (t182 != t184) = true then (laws_FnNumbersReflectOfAll.j4 kj25 a1 a2 a3 a4 a5 a6 a7 a8 t173 t174 t177 t178 t181 t182 t185 t186 true) else (if t181.toList = t183.toList then (if (t186 != t188) = true then (laws_FnNumbersReflectOfAll.j4 kj25 a1 a2 a3 a4 a5 a6 a7 a8 t173 t174 t177 t178 t181 t182 t185 t186 true) else (laws_FnNumbersReflectOfAll.j4 kj25 a1 a2 a3 a4 a5 a6 a7 a8 t173 t174 t177 t178 t181 t182 t185 t186 (t185 != t187))) else (laws_FnNumbersReflectOfAll.j4 kj25 a1 a2 a3 a4 a5 a6 a7 a8 t173 t174 t177 t178 t181 t182 t185 t186 true))) else (laws_FnNumbersReflectOfAll.j4 kj25 a1 a2 a3 a4 a5 a6 a7 a8 t173 t174 t177 t178 t181 t182 t185 t186 true))) else (laws_FnNumbersReflectOfAll.j4 kj25 a1 a2 a3 a4 a5 a6 a7 a8 t173 t174 t177 t178 t181 t182 t185 t186 true))) = some r := H
    have A65 := Aside0.mk A650
    clear A650
    have HC66 := Aside0.mk H
    clear H
    go_upto_region 31 with (first | ((with_reducible refine gate_callee (f := 10) rfl ?_); refine goesL_ (some 211) rfl rfl Tryd.func10 (by kernel_rfl) rfl #[.int .i64 a1, .int .i64 a2] rfl (by (try simp only [List.map_toArray, List.map_cons, List.map_nil]); first | done | rfl | (simp only [List.length_drop, List.length_take]; rfl)) ?_; (with_reducible refine (impl_PlainSum.calls a1 a2 t173 t174 _ A58.out).mono ?_); rintro e w' ⟨rfl, ⟨nd, rfl⟩⟩; refine ⟨_, rfl, ?_⟩) | ((with_reducible refine gate_callee (f := 13) rfl ?_); refine goesL_ (some 217) rfl rfl Tryd.func13 (by kernel_rfl) rfl #[.int .i64 a1, .int .i64 a2] rfl (by (try simp only [List.map_toArray, List.map_cons, List.map_nil]); first | done | rfl | (simp only [List.length_drop, List.length_take]; rfl)) ?_; (with_reducible refine (spec_PlainSum.calls a1 a2 t175 t176 _ A59.out).mono ?_); rintro e w' ⟨rfl, ⟨nd, rfl⟩⟩; refine ⟨_, rfl, ?_⟩) | ((with_reducible refine gate_callee (f := 14) rfl ?_); refine goesL_ (some 224) rfl rfl Tryd.func14 (by kernel_rfl) rfl #[.int .i64 a3, .int .i64 a4, .int .i64 a5] rfl (by (try simp only [List.map_toArray, List.map_cons, List.map_nil]); first | done | rfl | (simp only [List.length_drop, List.length_take]; rfl)) ?_; (with_reducible refine (impl_TimesChanged.calls kj25 a3 a4 a5 t177 t178 _ A60.out).mono ?_); rintro e w' ⟨rfl, ⟨nd, rfl⟩⟩; refine ⟨_, rfl, ?_⟩) | ((with_reducible refine gate_callee (f := 15) rfl ?_); refine goesL_ (some 231) rfl rfl Tryd.func15 (by kernel_rfl) rfl #[.int .i64 a3, .int .i64 a4, .int .i64 a5] rfl (by (try simp only [List.map_toArray, List.map_cons, List.map_nil]); first | done | rfl | (simp only [List.length_drop, List.length_take]; rfl)) ?_; (with_reducible refine (spec_TimesChanged.calls kj25 a3 a4 a5 t179 t180 _ A61.out).mono ?_); rintro e w' ⟨rfl, ⟨nd, rfl⟩⟩; refine ⟨_, rfl, ?_⟩) | ((with_reducible refine gate_callee (f := 11) rfl ?_); refine goesL_ (some 237) rfl rfl Tryd.func11 (by kernel_rfl) rfl #[.int .i64 a6, .int .i64 a7] rfl (by (try simp only [List.map_toArray, List.map_cons, List.map_nil]); first | done | rfl | (simp only [List.length_drop, List.length_take]; rfl)) ?_; (with_reducible refine (impl_ReflectedText.calls kj25 a6 a7 t181 t182 _ A62.out).mono ?_); rintro e w67 ⟨rfl, hb⟩; refine ⟨_, rfl, ?_⟩; have n0_ := Aside0.mk (below_step (by repeat (first | (with_reducible first | exact HB.out | apply below_alloc | apply pw_below_drewN | apply below_drew1) | exact HB.out)) hb); clear HB; have HB := n0_; clear n0_; (try clear hb); (try clear hb2); (try clear hk); (try clear hi)) | ((with_reducible refine gate_callee (f := 16) rfl ?_); refine goesL_ (some 243) rfl rfl Tryd.func16 (by kernel_rfl) rfl #[.int .i64 a6, .int .i64 a7] rfl (by (try simp only [List.map_toArray, List.map_cons, List.map_nil]); first | done | rfl | (simp only [List.length_drop, List.length_take]; rfl)) ?_; (with_reducible refine (spec_ReflectedText.calls kj25 a6 a7 t183 t184 _ A63.out).mono ?_); rintro e w68 ⟨rfl, hb⟩; refine ⟨_, rfl, ?_⟩; have n0_ := Aside0.mk (below_step (by repeat (first | (with_reducible first | exact HB.out | apply below_alloc | apply pw_below_drewN | apply below_drew1) | exact HB.out)) hb); clear HB; have HB := n0_; clear n0_; (try clear hb); (try clear hb2); (try clear hk); (try clear hi)) | ((with_reducible refine gate_callee (f := 12) rfl ?_); refine goesL_ (some 248) rfl rfl Tryd.func12 (by kernel_rfl) rfl #[.string a8] rfl (by (try simp only [List.map_toArray, List.map_cons, List.map_nil]); first | done | rfl | (simp only [List.length_drop, List.length_take]; rfl)) ?_; (with_reducible refine (impl_RankOfText.calls kj25 a8 t185 t186 _ A64.out).mono ?_); rintro e w69 ⟨rfl, hb⟩; refine ⟨_, rfl, ?_⟩; have n0_ := Aside0.mk (below_step (by repeat (first | (with_reducible first | exact HB.out | apply below_alloc | apply pw_below_drewN | apply below_drew1) | exact HB.out)) hb); clear HB; have HB := n0_; clear n0_; (try clear hb); (try clear hb2); (try clear hk); (try clear hi)) | ((with_reducible refine gate_callee (f := 17) rfl ?_); refine goesL_ (some 253) rfl rfl Tryd.func17 (by kernel_rfl) rfl #[.string a8] rfl (by (try simp only [List.map_toArray, List.map_cons, List.map_nil]); first | done | rfl | (simp only [List.length_drop, List.length_take]; rfl)) ?_; (with_reducible refine (spec_RankOfText.calls kj25 a8 t187 t188 _ A65.out).mono ?_); rintro e w70 ⟨rfl, hb⟩; refine ⟨_, rfl, ?_⟩; have n0_ := Aside0.mk (below_step (by repeat (first | (with_reducible first | exact HB.out | apply below_alloc | apply pw_below_drewN | apply below_drew1) | exact HB.out)) hb); clear HB; have HB := n0_; clear n0_; (try clear hb); (try clear hb2); (try clear hk); (try clear hi)))
    (try simp only [Act.put, List.setIfInBounds_toArray, List.set_cons_zero, List.set_cons_succ])
    refine wp_cutF [o_,o_,o_,o_,o_,o_,o_,o_,o_,o_,o_,o_,o_,o_,o_,o_,o_,o_,o_,o_,o_,o_,o_,o_,o_,o_,o_,o_,o_,o_,o_,o_,o_,o_,o_,o_,o_,o_,o_,o_,o_,o_,o_,o_,o_,o_,o_,o_,o_,o_,o_,o_,o_,o_,o_,o_,o_,o_,o_,o_,o_,o_,o_,o_,o_,o_,o_,o_,o_,i_,i_,i_,i_,i_,i_,i_,i_,i_,i_,i_,i_,i_,i_,i_,i_,i_,i_,i_,i_,i_,i_,i_,i_,i_,i_,i_,i_,i_,i_,i_,i_,i_,i_,i_,i_,i_,i_,i_,i_,i_,i_,i_,i_,i_,i_,i_,i_,i_,i_,i_,i_,i_,i_,i_,i_,i_,i_,i_,i_,i_,i_,i_,i_,i_,i_,i_,i_,i_,i_,i_,i_,i_,i_,i_,i_,i_,i_,i_,i_,i_,i_,i_,i_,i_,i_,i_,i_,i_,i_,i_,i_,i_,i_,i_,i_,i_,i_,i_,i_,i_,i_,i_,i_,i_,i_,i_,i_,i_,i_,i_,i_,i_,i_,i_,i_,i_,i_,i_,i_,i_,i_,i_,i_,i_,i_,i_,i_,i_,i_,i_,i_,i_,i_,i_,i_,i_,i_,i_,i_,i_,i_,i_,i_,i_,i_,i_,i_,i_,i_,i_,i_,i_,i_,i_,i_,i_,i_,i_,i_,i_,i_,i_,i_,i_,i_,i_,i_,i_,i_,i_,i_,i_,i_,i_,i_,i_,i_,i_,i_,i_,i_,i_,i_,i_,i_,i_,i_,i_,i_,i_,i_,i_,i_,i_,i_,i_,i_,i_,i_,i_,i_,i_,i_,i_,i_,i_,i_,i_,i_,i_,i_,i_,i_,i_,i_,i_,i_,i_,i_,i_,i_,i_,i_,i_,i_,i_,i_,i_,i_,i_,i_,i_,i_,i_,i_,i_,i_,i_,i_,i_,i_,i_,i_,i_,i_,i_,i_,i_,i_,i_,i_,i_,i_,i_,i_,i_,i_,i_,i_,i_,i_,i_,i_,i_,i_,i_,i_,i_,i_,i_,i_,i_,i_,i_,i_,i_,i_,i_,i_,i_,i_,i_,i_,i_,i_,i_,i_,i_,i_,i_,i_,i_,i_,i_,i_,i_,i_,i_,i_,i_,i_,i_,i_,i_,i_,i_,i_,i_,i_,i_,i_,i_,i_,i_,i_,i_,i_,i_,i_,i_,i_] (fun f_ wc => ∃ (kq : Nat) (x293_65 : Bool), (f_ 293) = .bool x293_65 ∧ Aside0 (laws_FnNumbersReflectOfAll.j4 kq a1 a2 a3 a4 a5 a6 a7 a8 t173 t174 t177 t178 t181 t182 t185 t186 x293_65 = some r) ∧ Aside0 (kq ≤ kj25) ∧ Aside0 (Below w.heap.size w wc)) ?rest ?first
    case first =>
      intro J_ K_ hJ_ hK_
      have H := HC66.out
      clear HC66
      by_cases c71 : (t174 != t176) = true
      · rw [if_pos c71] at H
        have c71b0 : (t174 != t176) = true := c71
        (try (have c71b1 : decide (t174 = t176) = false := by simpa using c71))
        (try (have c71b2 : (t174 == t176) = false := by simpa using c71))
        (try (have c71b3 : ¬ (t174 = t176) := by simpa using c71))
        clear c71
        (first | rw [c71b0] | (simp only [i64_w, i32_w]; rw [c71b0]) | skip)
        have H' := Aside0.mk H
        clear H
        go_wp2
        refine Met.intro (hJ_ _ _ ?mg_ ?rel)
        case mg_ => kernel_rfl
        case rel => exact ⟨_, (true), (by first | rfl | (simp; done) | (simp [*]; done)), H', ⟨by have := HJ16.out; have := HJ25.out; first | omega | exact Nat.le_refl _⟩, ⟨by repeat (first | (with_reducible first | exact HB.out | apply below_alloc | apply pw_below_drewN | apply below_drew1) | exact HB.out)⟩⟩
      · rw [if_neg c71] at H
        have c71b0 : (t174 != t176) = false := by simpa using c71
        (try (have c71b1 : decide (t174 = t176) = true := by simpa using c71))
        (try (have c71b2 : (t174 == t176) = true := by simpa using c71))
        clear c71
        (first | rw [c71b0] | (simp only [i64_w, i32_w]; rw [c71b0]) | skip)
        by_cases c72 : t173 = t175
        · rw [if_pos c72] at H
          have c72b0 : (t173 == t175) = true := beq_iff_eq.mpr c72
          have c72b1 : (t173 != t175) = false := bne_eq_false_iff_eq.mpr c72
          clear c72
          by_cases c73 : (t178 != t180) = true
          · rw [if_pos c73] at H
            have c73b0 : (t178 != t180) = true := c73
            (try (have c73b1 : decide (t178 = t180) = false := by simpa using c73))
            (try (have c73b2 : (t178 == t180) = false := by simpa using c73))
            (try (have c73b3 : ¬ (t178 = t180) := by simpa using c73))
            clear c73
            have H' := Aside0.mk H
            clear H
            go_wp2
            refine Met.intro (hJ_ _ _ ?mg_ ?rel)
            case mg_ => kernel_rfl
            case rel => exact ⟨_, (true), (by first | rfl | (simp; done) | (simp [*]; done)), H', ⟨by have := HJ16.out; have := HJ25.out; first | omega | exact Nat.le_refl _⟩, ⟨by repeat (first | (with_reducible first | exact HB.out | apply below_alloc | apply pw_below_drewN | apply below_drew1) | exact HB.out)⟩⟩
          · rw [if_neg c73] at H
            have c73b0 : (t178 != t180) = false := by simpa using c73
            (try (have c73b1 : decide (t178 = t180) = true := by simpa using c73))
            (try (have c73b2 : (t178 == t180) = true := by simpa using c73))
            clear c73
            by_cases c74 : t177 = t179
            · rw [if_pos c74] at H
              have c74b0 : (t177 == t179) = true := beq_iff_eq.mpr c74
              have c74b1 : (t177 != t179) = false := bne_eq_false_iff_eq.mpr c74
              clear c74
              by_cases c75 : (t182 != t184) = true
              · rw [if_pos c75] at H
                have c75b0 : (t182 != t184) = true := c75
                (try (have c75b1 : decide (t182 = t184) = false := by simpa using c75))
                (try (have c75b2 : (t182 == t184) = false := by simpa using c75))
                (try (have c75b3 : ¬ (t182 = t184) := by simpa using c75))
                clear c75
                have H' := Aside0.mk H
                clear H
                go_wp2
                refine Met.intro (hJ_ _ _ ?mg_ ?rel)
                case mg_ => kernel_rfl
                case rel => exact ⟨_, (true), (by first | rfl | (simp; done) | (simp [*]; done)), H', ⟨by have := HJ16.out; have := HJ25.out; first | omega | exact Nat.le_refl _⟩, ⟨by repeat (first | (with_reducible first | exact HB.out | apply below_alloc | apply pw_below_drewN | apply below_drew1) | exact HB.out)⟩⟩
              · rw [if_neg c75] at H
                have c75b0 : (t182 != t184) = false := by simpa using c75
                (try (have c75b1 : decide (t182 = t184) = true := by simpa using c75))
                (try (have c75b2 : (t182 == t184) = true := by simpa using c75))
                clear c75
                by_cases c76 : t181.toList = t183.toList
                · rw [if_pos c76] at H
                  have c76b0 : (t181.toList == t183.toList) = true := beq_iff_eq.mpr c76
                  have c76b1 : (t181.toList != t183.toList) = false := bne_eq_false_iff_eq.mpr c76
                  clear c76
                  by_cases c77 : (t186 != t188) = true
                  · rw [if_pos c77] at H
                    have c77b0 : (t186 != t188) = true := c77
                    (try (have c77b1 : decide (t186 = t188) = false := by simpa using c77))
                    (try (have c77b2 : (t186 == t188) = false := by simpa using c77))
                    (try (have c77b3 : ¬ (t186 = t188) := by simpa using c77))
                    clear c77
                    have H' := Aside0.mk H
                    clear H
                    go_wp2
                    refine Met.intro (hJ_ _ _ ?mg_ ?rel)
                    case mg_ => kernel_rfl
                    case rel => exact ⟨_, (true), (by first | rfl | (simp; done) | (simp [*]; done)), H', ⟨by have := HJ16.out; have := HJ25.out; first | omega | exact Nat.le_refl _⟩, ⟨by repeat (first | (with_reducible first | exact HB.out | apply below_alloc | apply pw_below_drewN | apply below_drew1) | exact HB.out)⟩⟩
                  · rw [if_neg c77] at H
                    have c77b0 : (t186 != t188) = false := by simpa using c77
                    (try (have c77b1 : decide (t186 = t188) = true := by simpa using c77))
                    (try (have c77b2 : (t186 == t188) = true := by simpa using c77))
                    clear c77
                    have H' := Aside0.mk H
                    clear H
                    go_wp2
                    refine Met.intro (hJ_ _ _ ?mg_ ?rel)
                    case mg_ => kernel_rfl
                    case rel => exact ⟨_, ((t185 != t187)), (by first | rfl | (simp; done) | (simp [*]; done)), H', ⟨by have := HJ16.out; have := HJ25.out; first | omega | exact Nat.le_refl _⟩, ⟨by repeat (first | (with_reducible first | exact HB.out | apply below_alloc | apply pw_below_drewN | apply below_drew1) | exact HB.out)⟩⟩
                · rw [if_neg c76] at H
                  have c76b0 : (t181.toList == t183.toList) = false := beq_eq_false_iff_ne.mpr c76
                  have c76b1 : (t181.toList != t183.toList) = true := bne_iff_ne.mpr c76
                  have H' := Aside0.mk H
                  clear H
                  go_wp2
                  refine Met.intro (hJ_ _ _ ?mg_ ?rel)
                  case mg_ => kernel_rfl
                  case rel => exact ⟨_, (true), (by first | rfl | (simp; done) | (simp [*]; done)), H', ⟨by have := HJ16.out; have := HJ25.out; first | omega | exact Nat.le_refl _⟩, ⟨by repeat (first | (with_reducible first | exact HB.out | apply below_alloc | apply pw_below_drewN | apply below_drew1) | exact HB.out)⟩⟩
            · rw [if_neg c74] at H
              have c74b0 : (t177 == t179) = false := beq_eq_false_iff_ne.mpr c74
              have c74b1 : (t177 != t179) = true := bne_iff_ne.mpr c74
              have H' := Aside0.mk H
              clear H
              go_wp2
              refine Met.intro (hJ_ _ _ ?mg_ ?rel)
              case mg_ => kernel_rfl
              case rel => exact ⟨_, (true), (by first | rfl | (simp; done) | (simp [*]; done)), H', ⟨by have := HJ16.out; have := HJ25.out; first | omega | exact Nat.le_refl _⟩, ⟨by repeat (first | (with_reducible first | exact HB.out | apply below_alloc | apply pw_below_drewN | apply below_drew1) | exact HB.out)⟩⟩
        · rw [if_neg c72] at H
          have c72b0 : (t173 == t175) = false := beq_eq_false_iff_ne.mpr c72
          have c72b1 : (t173 != t175) = true := bne_iff_ne.mpr c72
          have H' := Aside0.mk H
          clear H
          go_wp2
          refine Met.intro (hJ_ _ _ ?mg_ ?rel)
          case mg_ => kernel_rfl
          case rel => exact ⟨_, (true), (by first | rfl | (simp; done) | (simp [*]; done)), H', ⟨by have := HJ16.out; have := HJ25.out; first | omega | exact Nat.le_refl _⟩, ⟨by repeat (first | (with_reducible first | exact HB.out | apply below_alloc | apply pw_below_drewN | apply below_drew1) | exact HB.out)⟩⟩
    case rest =>
      intro f_ wc hcut
      dsimp only [maskF] at hcut ⊢
      generalize f_ 293 = u293 at hcut ⊢
      repeat revert ‹_›
      intro HP0_
      exact HP0_.out

set_option maxHeartbeats 8000000 in
set_option maxRecDepth 100000 in
def laws_FnNumbersReflectOfAll.c6 : PSigma fun P0_ : Prop => PSigma fun P1_ : Prop => Hole P0_ → Hole P1_ → laws_FnNumbersReflectOfAll.c5.1 := by
  refine' ⟨_, _, fun HP0_ HP1_ => _⟩
  rotate_left 2
  intro k a0 a1 a2 a3 a4 a5 a6 a7 a8 r w _ t151 t152 A11 t153 t154 A12 t155 t156 A13 t157 t158 A14 t159 t160 A15 t161 t162 A16 _ _ _ _ _ _ _ _ _ _ kj16 HJ16 _ _ kj25 HJ25 t173 t174 A58 t175 t176 A59 t177 t178 A60 t179 t180 A61 t181 t182 A62 t183 t184 A63 t185 t186 A64 t187 t188 A65 HC66 _ _ _ nd w67 w68 w69 w70 HB _ _ _ _ f_ wc u293 hcut
  clear HC66
  try clear c1
  try clear c2
  try clear p2
  try clear c3
  try clear c4
  try clear c5
  try clear c6
  try clear p6
  try clear c7
  try clear c8
  try clear c9
  try clear c10
  try clear c10b0
  try clear c10b1
  try clear c11
  try clear c12
  try clear c13
  try clear c14
  try clear c15
  try clear c16
  try clear c17
  try clear c18
  try clear c18b0
  try clear c18b1
  try clear c18b2
  try clear c19
  try clear c19b0
  try clear c19b1
  try clear c20
  try clear c20b0
  try clear c20b1
  try clear c20b2
  try clear c21
  try clear c21b0
  try clear c21b1
  try clear c22
  try clear c22b0
  try clear c22b1
  try clear c22b2
  try clear c23
  try clear c23b0
  try clear c23b1
  try clear c24
  try clear c24b0
  try clear c24b1
  try clear c24b2
  try clear c25
  try clear c27
  try clear c31
  try clear c32
  try clear c32b0
  try clear c32b1
  try clear c33
  try clear c34
  try clear c35
  try clear c38
  try clear c39
  try clear c39b0
  try clear c39b1
  try clear c41
  try clear c44
  try clear c45
  try clear c46
  try clear c46b0
  try clear c46b1
  try clear c47
  try clear c47b0
  try clear c47b1
  try clear p64
  try clear c71
  try clear c71b0
  try clear c71b1
  try clear c71b2
  try clear c72
  try clear c72b0
  try clear c72b1
  try clear c73
  try clear c73b0
  try clear c73b1
  try clear c73b2
  try clear c74
  try clear c74b0
  try clear c74b1
  try clear c75
  try clear c75b0
  try clear c75b1
  try clear c75b2
  try clear c76
  try clear c76b0
  try clear c76b1
  try clear c77
  try clear c77b0
  try clear c77b1
  try clear c77b2
  try clear p2
  try clear p6
  obtain ⟨kq, x293_65, rfl, HA, HJ65, HB⟩ := hcut
  cases kq with
  | zero => exact absurd HA.out (by simp [laws_FnNumbersReflectOfAll.j4])
  | succ kj65 =>
    have H := HA.out
    clear HA
    simp only [laws_FnNumbersReflectOfAll.j4] at H
    by_cases c78 : x293_65 = true
    · subst c78
      have H1 : (some false) = some r := by rw [if_pos rfl] at H; exact H
      clear H
      have H := H1
      clear H1
      obtain rfl := Option.some.inj H
      go_wp2
      go_ret
      exact ⟨by first | rfl | (simp [errW_none, errW_some] <;> rfl) | (simp [*, errW_none, errW_some] <;> rfl), by repeat (first | (with_reducible first | exact HB.out | apply below_alloc | apply pw_below_drewN | apply below_drew1) | exact HB.out)⟩
    · replace c78 := Bool.eq_false_iff.mpr c78
      subst c78
      have H1 : (if t174 = true then ((impl_PlainSum.f a2 a1).bind fun bt189 => ((impl_PlainSum.f t173 a2).bind fun bt191 => (if bt189.2 = true then (if bt189.1 = t173 then (if bt191.2 = true then (if bt191.1 = a1 then (laws_FnNumbersReflectOfAll.j5 kj65 a3 a4 a5 a6 a7 a8 t177 t178 t181 t182 t185 t186) else (some false)) else (laws_FnNumbersReflectOfAll.j5 kj65 a3 a4 a5 a6 a7 a8 t177 t178 t181 t182 t185 t186)) else (some false)) else (some false)))) else (laws_FnNumbersReflectOfAll.j5 kj65 a3 a4 a5 a6 a7 a8 t177 t178 t181 t182 t185 t186)) = some r := by rw [if_neg (show ¬ (false = true) by decide)] at H; exact H
      clear H
      have H := H1
      clear H1
      have HC79 := Aside0.mk H
      clear H
      go_upto_if 294 with (fail)
      refine wp_cutF [o_,o_,o_,o_,o_,o_,o_,o_,o_,o_,o_,o_,o_,o_,o_,o_,o_,o_,i_,o_,o_,o_,o_,o_,o_,o_,o_,o_,o_,o_,o_,o_,o_,o_,o_,o_,o_,o_,o_,o_,o_,o_,o_,o_,o_,o_,o_,o_,o_,o_,o_,o_,o_,o_,o_,o_,o_,i_,i_,i_,i_,o_,o_,o_,o_,o_,o_,o_,o_,i_,i_,i_,i_,i_,i_,i_,i_,i_,i_,i_,i_,i_,i_,i_,i_,i_,i_,i_,i_,i_,i_,i_,i_,i_,i_,i_,i_,i_,i_,i_,i_,i_,i_,i_,i_,i_,i_,i_,i_,i_,i_,i_,i_,i_,i_,i_,i_,i_,i_,i_,i_,i_,i_,i_,i_,i_,i_,i_,i_,i_,i_,i_,i_,i_,i_,i_,i_,i_,i_,i_,i_,i_,i_,i_,i_,i_,i_,i_,i_,i_,i_,i_,i_,i_,i_,i_,i_,i_,i_,i_,i_,i_,i_,i_,i_,i_,i_,i_,i_,i_,i_,i_,i_,i_,i_,i_,i_,i_,i_,i_,i_,i_,i_,i_,i_,i_,i_,i_,i_,i_,i_,i_,i_,i_,i_,i_,i_,i_,i_,i_,i_,i_,i_,i_,i_,i_,i_,i_,i_,i_,i_,i_,i_,i_,i_,i_,i_,i_,i_,i_,i_,i_,i_,i_,i_,i_,i_,i_,i_,i_,i_,i_,i_,i_,i_,i_,i_,i_,i_,i_,i_,i_,i_,i_,i_,i_,i_,i_,i_,i_,i_,i_,i_,i_,i_,i_,i_,i_,i_,i_,i_,i_,i_,i_,i_,i_,i_,i_,i_,i_,i_,i_,i_,i_,i_,i_,i_,i_,i_,i_,i_,i_,i_,i_,i_,i_,i_,i_,i_,i_,i_,i_,i_,i_,i_,i_,i_,i_,i_,i_,i_,i_,i_,i_,i_,i_,i_,i_,i_,i_,i_,i_,i_,i_,i_,i_,i_,i_,i_,i_,i_,i_,i_,i_,i_,i_,i_,i_,i_,i_,i_,i_,i_,i_,i_,i_,i_,i_,i_,i_,i_,i_,i_,i_,i_,i_,i_,i_,i_,i_,i_,i_,i_,i_,i_,i_,i_,i_,i_,i_,i_,i_,i_,i_,i_,i_,i_,i_,i_,i_,i_,i_,i_,i_,i_,i_,i_,i_,i_,i_,i_,i_,i_,i_,i_,i_,i_,i_,i_,i_,i_] (fun f_ wc => ∃ (kq : Nat), Aside0 (laws_FnNumbersReflectOfAll.j5 kq a3 a4 a5 a6 a7 a8 t177 t178 t181 t182 t185 t186 = some r) ∧ Aside0 (kq ≤ kj65) ∧ Aside0 (Below w.heap.size w wc)) ?rest ?first
      case first =>
        intro J_ K_ hJ_ hK_
        repeat revert ‹_›
        intro HP0_ HP1_
        exact HP0_.out
      case rest =>
        intro f_ wc hcut
        dsimp only [maskF] at hcut ⊢
        repeat revert ‹_›
        intro HP0_ HP1_
        exact HP1_.out

set_option maxHeartbeats 8000000 in
set_option maxRecDepth 100000 in
theorem laws_FnNumbersReflectOfAll.c7 : laws_FnNumbersReflectOfAll.c6.1 := by
  intro k a0 a1 a2 a3 a4 a5 a6 a7 a8 r w _ t151 t152 A11 t153 t154 A12 t155 t156 A13 t157 t158 A14 t159 t160 A15 t161 t162 A16 _ _ _ _ _ _ _ _ _ _ kj16 HJ16 _ _ kj25 HJ25 t173 t174 A58 t175 t176 A59 t177 t178 A60 t179 t180 A61 t181 t182 A62 t183 t184 A63 t185 t186 A64 t187 t188 A65 _ _ _ nd w67 w68 w69 w70 _ f_ wc HB kj65 HJ65 HC79 _ _ J_ K_ hJ_ hK_
  have H := HC79.out
  clear HC79
  by_cases c80 : t174 = true
  · subst c80
    have H1 : ((impl_PlainSum.f a2 a1).bind fun bt189 => ((impl_PlainSum.f t173 a2).bind fun bt191 => (if bt189.2 = true then (if bt189.1 = t173 then (if bt191.2 = true then (if bt191.1 = a1 then (laws_FnNumbersReflectOfAll.j5 kj65 a3 a4 a5 a6 a7 a8 t177 t178 t181 t182 t185 t186) else (some false)) else (laws_FnNumbersReflectOfAll.j5 kj65 a3 a4 a5 a6 a7 a8 t177 t178 t181 t182 t185 t186)) else (some false)) else (some false)))) = some r := by rw [if_pos rfl] at H; exact H
    clear H
    have H := H1
    clear H1
    replace H := Option.bind_eq_some_iff.mp H
    obtain ⟨⟨t189, t190⟩, A810, H⟩ := H
    replace H : ((impl_PlainSum.f t173 a2).bind fun bt191 => (if t190 = true then (if t189 = t173 then (if bt191.2 = true then (if bt191.1 = a1 then (laws_FnNumbersReflectOfAll.j5 kj65 a3 a4 a5 a6 a7 a8 t177 t178 t181 t182 t185 t186) else (some false)) else (laws_FnNumbersReflectOfAll.j5 kj65 a3 a4 a5 a6 a7 a8 t177 t178 t181 t182 t185 t186)) else (some false)) else (some false))) = some r := H
    have A81 := Aside0.mk A810
    clear A810
    replace H := Option.bind_eq_some_iff.mp H
    obtain ⟨⟨t191, t192⟩, A820, H⟩ := H
    replace H : (if t190 = true then (if t189 = t173 then (if t192 = true then (if t191 = a1 then (laws_FnNumbersReflectOfAll.j5 kj65 a3 a4 a5 a6 a7 a8 t177 t178 t181 t182 t185 t186) else (some false)) else (laws_FnNumbersReflectOfAll.j5 kj65 a3 a4 a5 a6 a7 a8 t177 t178 t181 t182 t185 t186)) else (some false)) else (some false)) = some r := H
    have A82 := Aside0.mk A820
    clear A820
    by_cases c83 : t190 = true
    · subst c83
      have H1 : (if t189 = t173 then (if t192 = true then (if t191 = a1 then (laws_FnNumbersReflectOfAll.j5 kj65 a3 a4 a5 a6 a7 a8 t177 t178 t181 t182 t185 t186) else (some false)) else (laws_FnNumbersReflectOfAll.j5 kj65 a3 a4 a5 a6 a7 a8 t177 t178 t181 t182 t185 t186)) else (some false)) = some r := by rw [if_pos rfl] at H; exact H
      clear H
      have H := H1
      clear H1
      by_cases c84 : t189 = t173
      · rw [if_pos c84] at H
        have c84b0 : (t189 == t173) = true := beq_iff_eq.mpr c84
        have c84b1 : (t189 != t173) = false := bne_eq_false_iff_eq.mpr c84
        clear c84
        (first | rw [c84b0] | (simp only [i64_w, i32_w]; rw [c84b0]) | skip)
        by_cases c85 : t192 = true
        · subst c85
          have H1 : (if t191 = a1 then (laws_FnNumbersReflectOfAll.j5 kj65 a3 a4 a5 a6 a7 a8 t177 t178 t181 t182 t185 t186) else (some false)) = some r := by rw [if_pos rfl] at H; exact H
          clear H
          have H := H1
          clear H1
          by_cases c86 : t191 = a1
          · rw [if_pos c86] at H
            have c86b0 : (t191 == a1) = true := beq_iff_eq.mpr c86
            have c86b1 : (t191 != a1) = false := bne_eq_false_iff_eq.mpr c86
            clear c86
            have H' := Aside0.mk H
            clear H
            go_wp2_with (first | ((with_reducible refine gate_callee (f := 10) rfl ?_); refine goesL_ (some 298) rfl rfl Tryd.func10 (by kernel_rfl) rfl #[.int .i64 a2, .int .i64 a1] rfl (by (try simp only [List.map_toArray, List.map_cons, List.map_nil]); first | done | rfl | (simp only [List.length_drop, List.length_take]; rfl)) ?_; (with_reducible refine (impl_PlainSum.calls a2 a1 t189 true _ A81.out).mono ?_); rintro e w' ⟨rfl, ⟨nd, rfl⟩⟩; refine ⟨_, rfl, ?_⟩) | ((with_reducible refine gate_callee (f := 10) rfl ?_); refine goesL_ (some 304) rfl rfl Tryd.func10 (by kernel_rfl) rfl #[.int .i64 t173, .int .i64 a2] rfl (by (try simp only [List.map_toArray, List.map_cons, List.map_nil]); first | done | rfl | (simp only [List.length_drop, List.length_take]; rfl)) ?_; (with_reducible refine (impl_PlainSum.calls t173 a2 t191 true _ A82.out).mono ?_); rintro e w' ⟨rfl, ⟨nd, rfl⟩⟩; refine ⟨_, rfl, ?_⟩))
            refine Met.intro (hJ_ _ _ ?mg_ ?rel)
            case mg_ => kernel_rfl
            case rel => exact ⟨_, H', ⟨by have := HJ16.out; have := HJ25.out; have := HJ65.out; first | omega | exact Nat.le_refl _⟩, ⟨by repeat (first | (with_reducible first | exact HB.out | apply below_alloc | apply pw_below_drewN | apply below_drew1) | exact HB.out)⟩⟩
          · rw [if_neg c86] at H
            have c86b0 : (t191 == a1) = false := beq_eq_false_iff_ne.mpr c86
            have c86b1 : (t191 != a1) = true := bne_iff_ne.mpr c86
            obtain rfl := Option.some.inj H
            go_wp2_with (first | ((with_reducible refine gate_callee (f := 10) rfl ?_); refine goesL_ (some 298) rfl rfl Tryd.func10 (by kernel_rfl) rfl #[.int .i64 a2, .int .i64 a1] rfl (by (try simp only [List.map_toArray, List.map_cons, List.map_nil]); first | done | rfl | (simp only [List.length_drop, List.length_take]; rfl)) ?_; (with_reducible refine (impl_PlainSum.calls a2 a1 t189 true _ A81.out).mono ?_); rintro e w' ⟨rfl, ⟨nd, rfl⟩⟩; refine ⟨_, rfl, ?_⟩) | ((with_reducible refine gate_callee (f := 10) rfl ?_); refine goesL_ (some 304) rfl rfl Tryd.func10 (by kernel_rfl) rfl #[.int .i64 t173, .int .i64 a2] rfl (by (try simp only [List.map_toArray, List.map_cons, List.map_nil]); first | done | rfl | (simp only [List.length_drop, List.length_take]; rfl)) ?_; (with_reducible refine (impl_PlainSum.calls t173 a2 t191 true _ A82.out).mono ?_); rintro e w' ⟨rfl, ⟨nd, rfl⟩⟩; refine ⟨_, rfl, ?_⟩))
            go_ret
            exact ⟨by first | rfl | (simp [errW_none, errW_some] <;> rfl) | (simp [*, errW_none, errW_some] <;> rfl), by repeat (first | (with_reducible first | exact HB.out | apply below_alloc | apply pw_below_drewN | apply below_drew1) | exact HB.out)⟩
        · replace c85 := Bool.eq_false_iff.mpr c85
          subst c85
          have H1 : (laws_FnNumbersReflectOfAll.j5 kj65 a3 a4 a5 a6 a7 a8 t177 t178 t181 t182 t185 t186) = some r := by rw [if_neg (show ¬ (false = true) by decide)] at H; exact H
          clear H
          have H := H1
          clear H1
          have H' := Aside0.mk H
          clear H
          go_wp2_with (first | ((with_reducible refine gate_callee (f := 10) rfl ?_); refine goesL_ (some 298) rfl rfl Tryd.func10 (by kernel_rfl) rfl #[.int .i64 a2, .int .i64 a1] rfl (by (try simp only [List.map_toArray, List.map_cons, List.map_nil]); first | done | rfl | (simp only [List.length_drop, List.length_take]; rfl)) ?_; (with_reducible refine (impl_PlainSum.calls a2 a1 t189 true _ A81.out).mono ?_); rintro e w' ⟨rfl, ⟨nd, rfl⟩⟩; refine ⟨_, rfl, ?_⟩) | ((with_reducible refine gate_callee (f := 10) rfl ?_); refine goesL_ (some 304) rfl rfl Tryd.func10 (by kernel_rfl) rfl #[.int .i64 t173, .int .i64 a2] rfl (by (try simp only [List.map_toArray, List.map_cons, List.map_nil]); first | done | rfl | (simp only [List.length_drop, List.length_take]; rfl)) ?_; (with_reducible refine (impl_PlainSum.calls t173 a2 t191 false _ A82.out).mono ?_); rintro e w' ⟨rfl, ⟨nd, rfl⟩⟩; refine ⟨_, rfl, ?_⟩))
          refine Met.intro (hJ_ _ _ ?mg_ ?rel)
          case mg_ => kernel_rfl
          case rel => exact ⟨_, H', ⟨by have := HJ16.out; have := HJ25.out; have := HJ65.out; first | omega | exact Nat.le_refl _⟩, ⟨by repeat (first | (with_reducible first | exact HB.out | apply below_alloc | apply pw_below_drewN | apply below_drew1) | exact HB.out)⟩⟩
      · rw [if_neg c84] at H
        have c84b0 : (t189 == t173) = false := beq_eq_false_iff_ne.mpr c84
        have c84b1 : (t189 != t173) = true := bne_iff_ne.mpr c84
        (first | rw [c84b0] | (simp only [i64_w, i32_w]; rw [c84b0]) | skip)
        obtain rfl := Option.some.inj H
        go_wp2_with (first | ((with_reducible refine gate_callee (f := 10) rfl ?_); refine goesL_ (some 298) rfl rfl Tryd.func10 (by kernel_rfl) rfl #[.int .i64 a2, .int .i64 a1] rfl (by (try simp only [List.map_toArray, List.map_cons, List.map_nil]); first | done | rfl | (simp only [List.length_drop, List.length_take]; rfl)) ?_; (with_reducible refine (impl_PlainSum.calls a2 a1 t189 true _ A81.out).mono ?_); rintro e w' ⟨rfl, ⟨nd, rfl⟩⟩; refine ⟨_, rfl, ?_⟩) | ((with_reducible refine gate_callee (f := 10) rfl ?_); refine goesL_ (some 304) rfl rfl Tryd.func10 (by kernel_rfl) rfl #[.int .i64 t173, .int .i64 a2] rfl (by (try simp only [List.map_toArray, List.map_cons, List.map_nil]); first | done | rfl | (simp only [List.length_drop, List.length_take]; rfl)) ?_; (with_reducible refine (impl_PlainSum.calls t173 a2 t191 t192 _ A82.out).mono ?_); rintro e w' ⟨rfl, ⟨nd, rfl⟩⟩; refine ⟨_, rfl, ?_⟩))
        go_ret
        exact ⟨by first | rfl | (simp [errW_none, errW_some] <;> rfl) | (simp [*, errW_none, errW_some] <;> rfl), by repeat (first | (with_reducible first | exact HB.out | apply below_alloc | apply pw_below_drewN | apply below_drew1) | exact HB.out)⟩
    · replace c83 := Bool.eq_false_iff.mpr c83
      subst c83
      have H1 : (some false) = some r := by rw [if_neg (show ¬ (false = true) by decide)] at H; exact H
      clear H
      have H := H1
      clear H1
      obtain rfl := Option.some.inj H
      go_wp2_with (first | ((with_reducible refine gate_callee (f := 10) rfl ?_); refine goesL_ (some 298) rfl rfl Tryd.func10 (by kernel_rfl) rfl #[.int .i64 a2, .int .i64 a1] rfl (by (try simp only [List.map_toArray, List.map_cons, List.map_nil]); first | done | rfl | (simp only [List.length_drop, List.length_take]; rfl)) ?_; (with_reducible refine (impl_PlainSum.calls a2 a1 t189 false _ A81.out).mono ?_); rintro e w' ⟨rfl, ⟨nd, rfl⟩⟩; refine ⟨_, rfl, ?_⟩) | ((with_reducible refine gate_callee (f := 10) rfl ?_); refine goesL_ (some 304) rfl rfl Tryd.func10 (by kernel_rfl) rfl #[.int .i64 t173, .int .i64 a2] rfl (by (try simp only [List.map_toArray, List.map_cons, List.map_nil]); first | done | rfl | (simp only [List.length_drop, List.length_take]; rfl)) ?_; (with_reducible refine (impl_PlainSum.calls t173 a2 t191 t192 _ A82.out).mono ?_); rintro e w' ⟨rfl, ⟨nd, rfl⟩⟩; refine ⟨_, rfl, ?_⟩))
      go_ret
      exact ⟨by first | rfl | (simp [errW_none, errW_some] <;> rfl) | (simp [*, errW_none, errW_some] <;> rfl), by repeat (first | (with_reducible first | exact HB.out | apply below_alloc | apply pw_below_drewN | apply below_drew1) | exact HB.out)⟩
  · replace c80 := Bool.eq_false_iff.mpr c80
    subst c80
    have H1 : (laws_FnNumbersReflectOfAll.j5 kj65 a3 a4 a5 a6 a7 a8 t177 t178 t181 t182 t185 t186) = some r := by rw [if_neg (show ¬ (false = true) by decide)] at H; exact H
    clear H
    have H := H1
    clear H1
    have H' := Aside0.mk H
    clear H
    go_wp2
    refine Met.intro (hJ_ _ _ ?mg_ ?rel)
    case mg_ => kernel_rfl
    case rel => exact ⟨_, H', ⟨by have := HJ16.out; have := HJ25.out; have := HJ65.out; first | omega | exact Nat.le_refl _⟩, ⟨by repeat (first | (with_reducible first | exact HB.out | apply below_alloc | apply pw_below_drewN | apply below_drew1) | exact HB.out)⟩⟩

set_option maxHeartbeats 8000000 in
set_option maxRecDepth 100000 in
def laws_FnNumbersReflectOfAll.c8 : PSigma fun P0_ : Prop => PSigma fun P1_ : Prop => Hole P0_ → Hole P1_ → laws_FnNumbersReflectOfAll.c6.2.1 := by
  refine' ⟨_, _, fun HP0_ HP1_ => _⟩
  rotate_left 2
  intro k a0 a1 a2 a3 a4 a5 a6 a7 a8 r w _ t151 t152 A11 t153 t154 A12 t155 t156 A13 t157 t158 A14 t159 t160 A15 t161 t162 A16 _ _ _ _ _ _ _ _ _ _ kj16 HJ16 _ _ kj25 HJ25 t173 t174 A58 t175 t176 A59 t177 t178 A60 t179 t180 A61 t181 t182 A62 t183 t184 A63 t185 t186 A64 t187 t188 A65 _ _ _ nd w67 w68 w69 w70 _ _ _ HB kj65 HJ65 HC79 _ _ f_ wc hcut
  clear HC79
  try clear c1
  try clear c2
  try clear p2
  try clear c3
  try clear c4
  try clear c5
  try clear c6
  try clear p6
  try clear c7
  try clear c8
  try clear c9
  try clear c10
  try clear c10b0
  try clear c10b1
  try clear c11
  try clear c12
  try clear c13
  try clear c14
  try clear c15
  try clear c16
  try clear c17
  try clear c18
  try clear c18b0
  try clear c18b1
  try clear c18b2
  try clear c19
  try clear c19b0
  try clear c19b1
  try clear c20
  try clear c20b0
  try clear c20b1
  try clear c20b2
  try clear c21
  try clear c21b0
  try clear c21b1
  try clear c22
  try clear c22b0
  try clear c22b1
  try clear c22b2
  try clear c23
  try clear c23b0
  try clear c23b1
  try clear c24
  try clear c24b0
  try clear c24b1
  try clear c24b2
  try clear c25
  try clear c27
  try clear c31
  try clear c32
  try clear c32b0
  try clear c32b1
  try clear c33
  try clear c34
  try clear c35
  try clear c38
  try clear c39
  try clear c39b0
  try clear c39b1
  try clear c41
  try clear c44
  try clear c45
  try clear c46
  try clear c46b0
  try clear c46b1
  try clear c47
  try clear c47b0
  try clear c47b1
  try clear p64
  try clear c71
  try clear c71b0
  try clear c71b1
  try clear c71b2
  try clear c72
  try clear c72b0
  try clear c72b1
  try clear c73
  try clear c73b0
  try clear c73b1
  try clear c73b2
  try clear c74
  try clear c74b0
  try clear c74b1
  try clear c75
  try clear c75b0
  try clear c75b1
  try clear c75b2
  try clear c76
  try clear c76b0
  try clear c76b1
  try clear c77
  try clear c77b0
  try clear c77b1
  try clear c77b2
  try clear c78
  try clear c80
  try clear c83
  try clear c84
  try clear c84b0
  try clear c84b1
  try clear c85
  try clear c86
  try clear c86b0
  try clear c86b1
  try clear p2
  try clear p6
  try clear p64
  obtain ⟨kq, HA, HJ78, HB⟩ := hcut
  cases kq with
  | zero => exact absurd HA.out (by simp [laws_FnNumbersReflectOfAll.j5])
  | succ kj78 =>
    have H := HA.out
    clear HA
    simp only [laws_FnNumbersReflectOfAll.j5] at H
    have HC87 := Aside0.mk H
    clear H
    go_upto_if 322 with (fail)
    refine wp_cutF [o_,o_,o_,o_,o_,o_,o_,o_,o_,o_,o_,o_,o_,o_,o_,o_,o_,o_,i_,o_,o_,o_,o_,o_,o_,o_,o_,o_,o_,o_,o_,o_,o_,o_,o_,o_,o_,o_,o_,o_,o_,o_,o_,o_,o_,o_,o_,o_,o_,o_,o_,o_,o_,o_,o_,o_,o_,o_,o_,o_,o_,i_,i_,i_,i_,o_,o_,o_,o_,i_,i_,i_,i_,i_,i_,i_,i_,i_,i_,i_,i_,i_,i_,i_,i_,i_,i_,i_,i_,i_,i_,i_,i_,i_,i_,i_,i_,i_,i_,i_,i_,i_,i_,i_,i_,i_,i_,i_,i_,i_,i_,i_,i_,i_,i_,i_,i_,i_,i_,i_,i_,i_,i_,i_,i_,i_,i_,i_,i_,i_,i_,i_,i_,i_,i_,i_,i_,i_,i_,i_,i_,i_,i_,i_,i_,i_,i_,i_,i_,i_,i_,i_,i_,i_,i_,i_,i_,i_,i_,i_,i_,i_,i_,i_,i_,i_,i_,i_,i_,i_,i_,i_,i_,i_,i_,i_,i_,i_,i_,i_,i_,i_,i_,i_,i_,i_,i_,i_,i_,i_,i_,i_,i_,i_,i_,i_,i_,i_,i_,i_,i_,i_,i_,i_,i_,i_,i_,i_,i_,i_,i_,i_,i_,i_,i_,i_,i_,i_,i_,i_,i_,i_,i_,i_,i_,i_,i_,i_,i_,i_,i_,i_,i_,i_,i_,i_,i_,i_,i_,i_,i_,i_,i_,i_,i_,i_,i_,i_,i_,i_,i_,i_,i_,i_,i_,i_,i_,i_,i_,i_,i_,i_,i_,i_,i_,i_,i_,i_,i_,i_,i_,i_,i_,i_,i_,i_,i_,i_,i_,i_,i_,i_,i_,i_,i_,i_,i_,i_,i_,i_,i_,i_,i_,i_,i_,i_,i_,i_,i_,i_,i_,i_,i_,i_,i_,i_,i_,i_,i_,i_,i_,i_,i_,i_,i_,i_,i_,i_,i_,i_,i_,i_,i_,i_,i_,i_,i_,i_,i_,i_,i_,i_,i_,i_,i_,i_,i_,i_,i_,i_,i_,i_,i_,i_,i_,i_,i_,i_,i_,i_,i_,i_,i_,i_,i_,i_,i_,i_,i_,i_,i_,i_,i_,i_,i_,i_,i_,i_,i_,i_,i_,i_,i_,i_,i_,i_,i_,i_,i_,i_,i_,i_,i_,i_,i_,i_,i_,i_,i_,i_,i_] (fun f_ wc => ∃ (kq : Nat), Aside0 (laws_FnNumbersReflectOfAll.j8 kq a6 a7 a8 t181 t182 t185 t186 = some r) ∧ Aside0 (kq ≤ kj78) ∧ Aside0 (Below w.heap.size w wc)) ?rest ?first
    case first =>
      intro J_ K_ hJ_ hK_
      repeat revert ‹_›
      intro HP0_ HP1_
      exact HP0_.out
    case rest =>
      intro f_ wc hcut
      dsimp only [maskF] at hcut ⊢
      repeat revert ‹_›
      intro HP0_ HP1_
      exact HP1_.out

set_option maxHeartbeats 8000000 in
set_option maxRecDepth 100000 in
def laws_FnNumbersReflectOfAll.c9 : PSigma fun P0_ : Prop => Hole P0_ → laws_FnNumbersReflectOfAll.c8.1 := by
  refine' ⟨_, fun HP0_ => _⟩
  rotate_left 1
  intro k a0 a1 a2 a3 a4 a5 a6 a7 a8 r w _ t151 t152 A11 t153 t154 A12 t155 t156 A13 t157 t158 A14 t159 t160 A15 t161 t162 A16 _ _ _ _ _ _ _ _ _ _ kj16 HJ16 _ _ kj25 HJ25 t173 t174 A58 t175 t176 A59 t177 t178 A60 t179 t180 A61 t181 t182 A62 t183 t184 A63 t185 t186 A64 t187 t188 A65 _ _ _ nd w67 w68 w69 w70 _ _ _ _ kj65 HJ65 f_ wc HB kj78 HJ78 HC87 _ _ J_ K_ hJ_ hK_
  have H := HC87.out
  clear HC87
  by_cases c88 : t178 = true
  · subst c88
    have H1 : (if t177 < 0 then (laws_FnNumbersReflectOfAll.j6 kj78 a3 a4 a5 a6 a7 a8 t177 t181 t182 t185 t186 true) else (laws_FnNumbersReflectOfAll.j6 kj78 a3 a4 a5 a6 a7 a8 t177 t181 t182 t185 t186 (decide ((wrap64 (a4 - a3)) < t177)))) = some r := by rw [if_pos rfl] at H; exact H
    clear H
    have H := H1
    clear H1
    have HC89 := Aside0.mk H
    clear H
    go_upto_region 39 with (fail)
    refine wp_cutF [o_,o_,o_,o_,o_,o_,o_,o_,o_,o_,o_,o_,o_,o_,o_,o_,o_,o_,o_,o_,o_,o_,o_,o_,o_,o_,o_,o_,o_,o_,o_,o_,o_,o_,o_,o_,o_,o_,o_,o_,o_,o_,o_,o_,o_,o_,o_,o_,o_,o_,o_,o_,o_,o_,o_,o_,o_,o_,o_,o_,o_,o_,o_,o_,o_,o_,o_,o_,o_,i_,i_,i_,i_,i_,i_,i_,i_,i_,i_,i_,i_,i_,i_,i_,i_,i_,i_,i_,i_,i_,i_,i_,i_,i_,i_,i_,i_,i_,i_,i_,i_,i_,i_,i_,i_,i_,i_,i_,i_,i_,i_,i_,i_,i_,i_,i_,i_,i_,i_,i_,i_,i_,i_,i_,i_,i_,i_,i_,i_,i_,i_,i_,i_,i_,i_,i_,i_,i_,i_,i_,i_,i_,i_,i_,i_,i_,i_,i_,i_,i_,i_,i_,i_,i_,i_,i_,i_,i_,i_,i_,i_,i_,i_,i_,i_,i_,i_,i_,i_,i_,i_,i_,i_,i_,i_,i_,i_,i_,i_,i_,i_,i_,i_,i_,i_,i_,i_,i_,i_,i_,i_,i_,i_,i_,i_,i_,i_,i_,i_,i_,i_,i_,i_,i_,i_,i_,i_,i_,i_,i_,i_,i_,i_,i_,i_,i_,i_,i_,i_,i_,i_,i_,i_,i_,i_,i_,i_,i_,i_,i_,i_,i_,i_,i_,i_,i_,i_,i_,i_,i_,i_,i_,i_,i_,i_,i_,i_,i_,i_,i_,i_,i_,i_,i_,i_,i_,i_,i_,i_,i_,i_,i_,i_,i_,i_,i_,i_,i_,i_,i_,i_,i_,i_,i_,i_,i_,i_,i_,i_,i_,i_,i_,i_,i_,i_,i_,i_,i_,i_,i_,i_,i_,i_,i_,i_,i_,i_,i_,i_,i_,i_,i_,i_,i_,i_,i_,i_,i_,i_,i_,i_,i_,i_,i_,i_,i_,i_,i_,i_,i_,i_,i_,i_,i_,i_,i_,i_,i_,i_,i_,i_,i_,i_,i_,i_,i_,i_,i_,i_,i_,i_,i_,i_,i_,i_,i_,i_,i_,i_,i_,i_,i_,i_,i_,i_,i_,i_,i_,i_,i_,i_,i_,i_,i_,i_,i_,i_,i_,i_,i_,i_,i_,i_,i_,i_,i_,i_,i_,i_,i_,i_,i_,i_,i_,i_,i_,i_,i_,i_,i_,i_] (fun f_ wc => ∃ (kq : Nat) (x331_88 : Bool), (f_ 331) = .bool x331_88 ∧ Aside0 (laws_FnNumbersReflectOfAll.j6 kq a3 a4 a5 a6 a7 a8 t177 t181 t182 t185 t186 x331_88 = some r) ∧ Aside0 (kq ≤ kj78) ∧ Aside0 (Below w.heap.size w wc)) ?rest ?first
    case first =>
      intro J_ K_ hJ_ hK_
      have H := HC89.out
      clear HC89
      by_cases c90 : t177 < 0
      · rw [if_pos c90] at H
        have c90b0 : decide (t177 < 0) = true := decide_eq_true c90
        clear c90
        (first | rw [c90b0] | (simp only [i64_w, i32_w]; rw [c90b0]) | skip)
        have H' := Aside0.mk H
        clear H
        go_wp2
        refine Met.intro (hJ_ _ _ ?mg_ ?rel)
        case mg_ => kernel_rfl
        case rel => exact ⟨_, (true), (by first | rfl | (simp; done) | (simp [*]; done)), H', ⟨by have := HJ16.out; have := HJ25.out; have := HJ65.out; have := HJ78.out; first | omega | exact Nat.le_refl _⟩, ⟨by repeat (first | (with_reducible first | exact HB.out | apply below_alloc | apply pw_below_drewN | apply below_drew1) | exact HB.out)⟩⟩
      · rw [if_neg c90] at H
        have c90b0 : decide (t177 < 0) = false := decide_eq_false c90
        clear c90
        (first | rw [c90b0] | (simp only [i64_w, i32_w]; rw [c90b0]) | skip)
        have H' := Aside0.mk H
        clear H
        go_wp2
        refine Met.intro (hJ_ _ _ ?mg_ ?rel)
        case mg_ => kernel_rfl
        case rel => exact ⟨_, (decide ((wrap64 (a4 - a3)) < t177)), (by first | rfl | (simp; done) | (simp [*]; done)), H', ⟨by have := HJ16.out; have := HJ25.out; have := HJ65.out; have := HJ78.out; first | omega | exact Nat.le_refl _⟩, ⟨by repeat (first | (with_reducible first | exact HB.out | apply below_alloc | apply pw_below_drewN | apply below_drew1) | exact HB.out)⟩⟩
    case rest =>
      intro f_ wc hcut
      dsimp only [maskF] at hcut ⊢
      generalize f_ 331 = u331 at hcut ⊢
      repeat revert ‹_›
      intro HP0_
      exact HP0_.out
  · replace c88 := Bool.eq_false_iff.mpr c88
    subst c88
    have H1 : (laws_FnNumbersReflectOfAll.j8 kj78 a6 a7 a8 t181 t182 t185 t186) = some r := by rw [if_neg (show ¬ (false = true) by decide)] at H; exact H
    clear H
    have H := H1
    clear H1
    have H' := Aside0.mk H
    clear H
    go_wp2
    refine Met.intro (hJ_ _ _ ?mg_ ?rel)
    case mg_ => kernel_rfl
    case rel => exact ⟨_, H', ⟨by have := HJ16.out; have := HJ25.out; have := HJ65.out; have := HJ78.out; first | omega | exact Nat.le_refl _⟩, ⟨by repeat (first | (with_reducible first | exact HB.out | apply below_alloc | apply pw_below_drewN | apply below_drew1) | exact HB.out)⟩⟩

set_option maxHeartbeats 8000000 in
set_option maxRecDepth 100000 in
def laws_FnNumbersReflectOfAll.c10 : PSigma fun P0_ : Prop => Hole P0_ → laws_FnNumbersReflectOfAll.c9.1 := by
  refine' ⟨_, fun HP0_ => _⟩
  rotate_left 1
  intro k a0 a1 a2 a3 a4 a5 a6 a7 a8 r w _ t151 t152 A11 t153 t154 A12 t155 t156 A13 t157 t158 A14 t159 t160 A15 t161 t162 A16 _ _ _ _ _ _ _ _ _ _ kj16 HJ16 _ _ kj25 HJ25 t173 t174 A58 t175 t176 A59 t177 t179 t180 A61 t181 t182 A62 t183 t184 A63 t185 t186 A64 t187 t188 A65 _ _ _ nd w67 w68 w69 w70 _ _ _ _ kj65 HJ65 _ _ HB kj78 HJ78 _ _ J_ K_ hK_ A60 hJ_ HC89 _ _ _ _ f_ wc u331 hcut
  clear HC89
  try clear c1
  try clear c2
  try clear p2
  try clear c3
  try clear c4
  try clear c5
  try clear c6
  try clear p6
  try clear c7
  try clear c8
  try clear c9
  try clear c10
  try clear c10b0
  try clear c10b1
  try clear c11
  try clear c12
  try clear c13
  try clear c14
  try clear c15
  try clear c16
  try clear c17
  try clear c18
  try clear c18b0
  try clear c18b1
  try clear c18b2
  try clear c19
  try clear c19b0
  try clear c19b1
  try clear c20
  try clear c20b0
  try clear c20b1
  try clear c20b2
  try clear c21
  try clear c21b0
  try clear c21b1
  try clear c22
  try clear c22b0
  try clear c22b1
  try clear c22b2
  try clear c23
  try clear c23b0
  try clear c23b1
  try clear c24
  try clear c24b0
  try clear c24b1
  try clear c24b2
  try clear c25
  try clear c27
  try clear c31
  try clear c32
  try clear c32b0
  try clear c32b1
  try clear c33
  try clear c34
  try clear c35
  try clear c38
  try clear c39
  try clear c39b0
  try clear c39b1
  try clear c41
  try clear c44
  try clear c45
  try clear c46
  try clear c46b0
  try clear c46b1
  try clear c47
  try clear c47b0
  try clear c47b1
  try clear p64
  try clear c71
  try clear c71b0
  try clear c71b1
  try clear c71b2
  try clear c72
  try clear c72b0
  try clear c72b1
  try clear c73
  try clear c73b0
  try clear c73b1
  try clear c73b2
  try clear c74
  try clear c74b0
  try clear c74b1
  try clear c75
  try clear c75b0
  try clear c75b1
  try clear c75b2
  try clear c76
  try clear c76b0
  try clear c76b1
  try clear c77
  try clear c77b0
  try clear c77b1
  try clear c77b2
  try clear c78
  try clear c80
  try clear c83
  try clear c84
  try clear c84b0
  try clear c84b1
  try clear c85
  try clear c86
  try clear c86b0
  try clear c86b1
  try clear c88
  try clear c90
  try clear c90b0
  try clear p2
  try clear p6
  try clear p64
  obtain ⟨kq, x331_88, rfl, HA, HJ88, HB⟩ := hcut
  cases kq with
  | zero => exact absurd HA.out (by simp [laws_FnNumbersReflectOfAll.j6])
  | succ kj88 =>
    have H := HA.out
    clear HA
    simp only [laws_FnNumbersReflectOfAll.j6] at H
    by_cases c91 : x331_88 = true
    · subst c91
      have H1 : (some false) = some r := by rw [if_pos rfl] at H; exact H
      clear H
      have H := H1
      clear H1
      obtain rfl := Option.some.inj H
      go_wp2
      go_ret
      exact ⟨by first | rfl | (simp [errW_none, errW_some] <;> rfl) | (simp [*, errW_none, errW_some] <;> rfl), by repeat (first | (with_reducible first | exact HB.out | apply below_alloc | apply pw_below_drewN | apply below_drew1) | exact HB.out)⟩
    · replace c91 := Bool.eq_false_iff.mpr c91
      subst c91
      have H1 : (if (wrap64 (a4 - a3)) ≤ 64 then (laws_FnNumbersReflectOfAll.l0 kj88 a4 a5 a6 a7 a8 t177 t181 t182 t185 t186 0 a3) else (laws_FnNumbersReflectOfAll.j8 kj88 a6 a7 a8 t181 t182 t185 t186)) = some r := by rw [if_neg (show ¬ (false = true) by decide)] at H; exact H
      clear H
      have H := H1
      clear H1
      by_cases c92 : (wrap64 (a4 - a3)) ≤ 64
      · rw [if_pos c92] at H
        have c92b0 : decide ((wrap64 (a4 - a3)) ≤ 64) = true := decide_eq_true c92
        clear c92
        have H' := Aside0.mk H
        clear H
        go_wp2
        go_loopg [61, 62] kj88 (fun kq v61 v62 w' => ∃ (x61_6 : Int) (x62_6 : Int), v61 = .int .i64 x61_6 ∧ v62 = .int .i64 x62_6 ∧ Aside0 (laws_FnNumbersReflectOfAll.l0 kq a4 a5 a6 a7 a8 t177 t181 t182 t185 t186 x61_6 x62_6 = some r) ∧ Aside0 (kq ≤ kj88) ∧ Aside0 (Below w.heap.size w w'))
        case atStart => exact ⟨(0), (a3), (by first | rfl | (simp; done) | (simp [*]; done)), (by first | rfl | (simp; done) | (simp [*]; done)), H', ⟨Nat.le_refl _⟩, ⟨by repeat (first | (with_reducible first | exact HB.out | apply below_alloc | apply pw_below_drewN | apply below_drew1) | exact HB.out)⟩⟩
        case round =>
          repeat revert ‹_›
          intro HP0_
          exact HP0_.out
      · rw [if_neg c92] at H
        have c92b0 : decide ((wrap64 (a4 - a3)) ≤ 64) = false := decide_eq_false c92
        clear c92
        have H' := Aside0.mk H
        clear H
        go_wp2
        refine Met.intro (hJ_ _ _ ?mg_ ?rel)
        case mg_ => kernel_rfl
        case rel => exact ⟨_, H', ⟨by have := HJ16.out; have := HJ25.out; have := HJ65.out; have := HJ78.out; have := HJ88.out; first | omega | exact Nat.le_refl _⟩, ⟨by repeat (first | (with_reducible first | exact HB.out | apply below_alloc | apply pw_below_drewN | apply below_drew1) | exact HB.out)⟩⟩

set_option maxHeartbeats 8000000 in
set_option maxRecDepth 100000 in
theorem laws_FnNumbersReflectOfAll.c11 : laws_FnNumbersReflectOfAll.c10.1 := by
  intro k a0 a1 a2 a3 a4 a5 a6 a7 a8 r w _ t151 t152 A11 t153 t154 A12 t155 t156 A13 t157 t158 A14 t159 t160 A15 t161 t162 A16 _ _ _ _ _ _ _ _ _ _ kj16 HJ16 _ _ kj25 HJ25 t173 t174 A58 t175 t176 A59 t177 t179 t180 A61 t181 t182 A62 t183 t184 A63 t185 t186 A64 t187 t188 A65 _ _ _ nd w67 w68 w69 w70 _ _ _ _ kj65 HJ65 _ _ _ kj78 HJ78 _ _ J_ K_ hK_ A60 hJ_ f_ wc HB kj88 HJ88 c92b0 H' _ _ gk wr u18 u61 u62 u63 u64 u337 u338 u339 u340 u341 u342 u343 u344 u345 u346 u347 u348 u349 u350 u351 u352 u353 hrel _ _ _ _
  clear H'
  try clear c1
  try clear c2
  try clear p2
  try clear c3
  try clear c4
  try clear c5
  try clear c6
  try clear p6
  try clear c7
  try clear c8
  try clear c9
  try clear c10
  try clear c10b0
  try clear c10b1
  try clear c11
  try clear c12
  try clear c13
  try clear c14
  try clear c15
  try clear c16
  try clear c17
  try clear c18
  try clear c18b0
  try clear c18b1
  try clear c18b2
  try clear c19
  try clear c19b0
  try clear c19b1
  try clear c20
  try clear c20b0
  try clear c20b1
  try clear c20b2
  try clear c21
  try clear c21b0
  try clear c21b1
  try clear c22
  try clear c22b0
  try clear c22b1
  try clear c22b2
  try clear c23
  try clear c23b0
  try clear c23b1
  try clear c24
  try clear c24b0
  try clear c24b1
  try clear c24b2
  try clear c25
  try clear c27
  try clear c31
  try clear c32
  try clear c32b0
  try clear c32b1
  try clear c33
  try clear c34
  try clear c35
  try clear c38
  try clear c39
  try clear c39b0
  try clear c39b1
  try clear c41
  try clear c44
  try clear c45
  try clear c46
  try clear c46b0
  try clear c46b1
  try clear c47
  try clear c47b0
  try clear c47b1
  try clear p64
  try clear c71
  try clear c71b0
  try clear c71b1
  try clear c71b2
  try clear c72
  try clear c72b0
  try clear c72b1
  try clear c73
  try clear c73b0
  try clear c73b1
  try clear c73b2
  try clear c74
  try clear c74b0
  try clear c74b1
  try clear c75
  try clear c75b0
  try clear c75b1
  try clear c75b2
  try clear c76
  try clear c76b0
  try clear c76b1
  try clear c77
  try clear c77b0
  try clear c77b1
  try clear c77b2
  try clear c78
  try clear c80
  try clear c83
  try clear c84
  try clear c84b0
  try clear c84b1
  try clear c85
  try clear c86
  try clear c86b0
  try clear c86b1
  try clear c88
  try clear c90
  try clear c90b0
  try clear c91
  try clear c92
  try clear c92b0
  try clear p2
  try clear p6
  try clear p64
  obtain ⟨x61_6, x62_6, rfl, rfl, HA, HK6, HB⟩ := hrel
  cases gk with
  | zero => exact absurd HA.out (by simp [laws_FnNumbersReflectOfAll.l0])
  | succ k6 =>
    have H := HA.out
    clear HA
    simp only [laws_FnNumbersReflectOfAll.l0] at H
    by_cases c93 : x62_6 < a4
    · rw [if_pos c93] at H
      have c93b0 : decide (x62_6 < a4) = true := decide_eq_true c93
      clear c93
      replace H := Option.bind_eq_some_iff.mp H
      obtain ⟨⟨t193, t194⟩, A940, H⟩ := H
      replace H : (if t194 = true then (if t193 = a5 then (laws_FnNumbersReflectOfAll.l0 k6 a4 a5 a6 a7 a8 t177 t181 t182 t185 t186 (wrap64 (x61_6 + 1)) (wrap64 (x62_6 + 1))) else (laws_FnNumbersReflectOfAll.l0 k6 a4 a5 a6 a7 a8 t177 t181 t182 t185 t186 x61_6 (wrap64 (x62_6 + 1)))) else (some false)) = some r := H
      have A94 := Aside0.mk A940
      clear A940
      by_cases c95 : t194 = true
      · subst c95
        have H1 : (if t193 = a5 then (laws_FnNumbersReflectOfAll.l0 k6 a4 a5 a6 a7 a8 t177 t181 t182 t185 t186 (wrap64 (x61_6 + 1)) (wrap64 (x62_6 + 1))) else (laws_FnNumbersReflectOfAll.l0 k6 a4 a5 a6 a7 a8 t177 t181 t182 t185 t186 x61_6 (wrap64 (x62_6 + 1)))) = some r := by rw [if_pos rfl] at H; exact H
        clear H
        have H := H1
        clear H1
        by_cases c96 : t193 = a5
        · rw [if_pos c96] at H
          have c96b0 : (t193 == a5) = true := beq_iff_eq.mpr c96
          have c96b1 : (t193 != a5) = false := bne_eq_false_iff_eq.mpr c96
          clear c96
          have H' := Aside0.mk H
          clear H
          go_wp2_with (first | ((with_reducible refine gate_callee (f := 8) rfl ?_); refine goesL_ (some 344) rfl rfl Tryd.func8 (by kernel_rfl) rfl #[.int .i64 x62_6] rfl (by (try simp only [List.map_toArray, List.map_cons, List.map_nil]); first | done | rfl | (simp only [List.length_drop, List.length_take]; rfl)) ?_; (with_reducible refine (impl_ChangedDigit.calls k6 x62_6 t193 true _ A94.out).mono ?_); rintro e w' ⟨rfl, ⟨nd, rfl⟩⟩; refine ⟨_, rfl, ?_⟩))
          go_roundg k6
          case measure => have := HJ16.out; have := HJ25.out; have := HJ65.out; have := HJ78.out; have := HJ88.out; have := HK6.out; omega
          case rel => exact ⟨(wrap64 (x61_6 + 1)), (wrap64 (x62_6 + 1)), (by first | rfl | (simp; done) | (simp [*]; done)), (by first | rfl | (simp; done) | (simp [*]; done)), H', ⟨by have := HJ16.out; have := HJ25.out; have := HJ65.out; have := HJ78.out; have := HJ88.out; have := HK6.out; omega⟩, ⟨by repeat (first | (with_reducible first | exact HB.out | apply below_alloc | apply pw_below_drewN | apply below_drew1) | exact HB.out)⟩⟩
        · rw [if_neg c96] at H
          have c96b0 : (t193 == a5) = false := beq_eq_false_iff_ne.mpr c96
          have c96b1 : (t193 != a5) = true := bne_iff_ne.mpr c96
          have H' := Aside0.mk H
          clear H
          go_wp2_with (first | ((with_reducible refine gate_callee (f := 8) rfl ?_); refine goesL_ (some 344) rfl rfl Tryd.func8 (by kernel_rfl) rfl #[.int .i64 x62_6] rfl (by (try simp only [List.map_toArray, List.map_cons, List.map_nil]); first | done | rfl | (simp only [List.length_drop, List.length_take]; rfl)) ?_; (with_reducible refine (impl_ChangedDigit.calls k6 x62_6 t193 true _ A94.out).mono ?_); rintro e w' ⟨rfl, ⟨nd, rfl⟩⟩; refine ⟨_, rfl, ?_⟩))
          go_roundg k6
          case measure => have := HJ16.out; have := HJ25.out; have := HJ65.out; have := HJ78.out; have := HJ88.out; have := HK6.out; omega
          case rel => exact ⟨(x61_6), (wrap64 (x62_6 + 1)), (by first | rfl | (simp; done) | (simp [*]; done)), (by first | rfl | (simp; done) | (simp [*]; done)), H', ⟨by have := HJ16.out; have := HJ25.out; have := HJ65.out; have := HJ78.out; have := HJ88.out; have := HK6.out; omega⟩, ⟨by repeat (first | (with_reducible first | exact HB.out | apply below_alloc | apply pw_below_drewN | apply below_drew1) | exact HB.out)⟩⟩
      · replace c95 := Bool.eq_false_iff.mpr c95
        subst c95
        have H1 : (some false) = some r := by rw [if_neg (show ¬ (false = true) by decide)] at H; exact H
        clear H
        have H := H1
        clear H1
        obtain rfl := Option.some.inj H
        go_wp2_with (first | ((with_reducible refine gate_callee (f := 8) rfl ?_); refine goesL_ (some 344) rfl rfl Tryd.func8 (by kernel_rfl) rfl #[.int .i64 x62_6] rfl (by (try simp only [List.map_toArray, List.map_cons, List.map_nil]); first | done | rfl | (simp only [List.length_drop, List.length_take]; rfl)) ?_; (with_reducible refine (impl_ChangedDigit.calls k6 x62_6 t193 false _ A94.out).mono ?_); rintro e w' ⟨rfl, ⟨nd, rfl⟩⟩; refine ⟨_, rfl, ?_⟩))
        go_ret
        exact ⟨by first | rfl | (simp [errW_none, errW_some] <;> rfl) | (simp [*, errW_none, errW_some] <;> rfl), by repeat (first | (with_reducible first | exact HB.out | apply below_alloc | apply pw_below_drewN | apply below_drew1) | exact HB.out)⟩
    · rw [if_neg c93] at H
      have c93b0 : decide (x62_6 < a4) = false := decide_eq_false c93
      clear c93
      by_cases c97 : x61_6 = t177
      · rw [if_pos c97] at H
        have c97b0 : (x61_6 == t177) = true := beq_iff_eq.mpr c97
        have c97b1 : (x61_6 != t177) = false := bne_eq_false_iff_eq.mpr c97
        clear c97
        have H' := Aside0.mk H
        clear H
        go_wp2
        refine Met.intro (hJ_ _ _ ?mg_ ?rel)
        case mg_ => kernel_rfl
        case rel => exact ⟨_, H', ⟨by have := HJ16.out; have := HJ25.out; have := HJ65.out; have := HJ78.out; have := HJ88.out; have := HK6.out; first | omega | exact Nat.le_refl _⟩, ⟨by repeat (first | (with_reducible first | exact HB.out | apply below_alloc | apply pw_below_drewN | apply below_drew1) | exact HB.out)⟩⟩
      · rw [if_neg c97] at H
        have c97b0 : (x61_6 == t177) = false := beq_eq_false_iff_ne.mpr c97
        have c97b1 : (x61_6 != t177) = true := bne_iff_ne.mpr c97
        obtain rfl := Option.some.inj H
        go_wp2
        go_ret
        exact ⟨by first | rfl | (simp [errW_none, errW_some] <;> rfl) | (simp [*, errW_none, errW_some] <;> rfl), by repeat (first | (with_reducible first | exact HB.out | apply below_alloc | apply pw_below_drewN | apply below_drew1) | exact HB.out)⟩

set_option maxHeartbeats 8000000 in
set_option maxRecDepth 100000 in
def laws_FnNumbersReflectOfAll.c12 : PSigma fun P0_ : Prop => Hole P0_ → laws_FnNumbersReflectOfAll.c8.2.1 := by
  refine' ⟨_, fun HP0_ => _⟩
  rotate_left 1
  intro k a0 a1 a2 a3 a4 a5 a6 a7 a8 r w _ t151 t152 A11 t153 t154 A12 t155 t156 A13 t157 t158 A14 t159 t160 A15 t161 t162 A16 _ _ _ _ _ _ _ _ _ _ kj16 HJ16 _ _ kj25 HJ25 t173 t174 A58 t175 t176 A59 t177 t178 A60 t179 t180 A61 t181 t182 A62 t183 t184 A63 t185 t186 A64 t187 t188 A65 _ _ _ nd w67 w68 w69 w70 _ _ _ _ kj65 HJ65 _ _ HB kj78 HJ78 HC87 _ _ f_ wc hcut
  clear HC87
  try clear c1
  try clear c2
  try clear p2
  try clear c3
  try clear c4
  try clear c5
  try clear c6
  try clear p6
  try clear c7
  try clear c8
  try clear c9
  try clear c10
  try clear c10b0
  try clear c10b1
  try clear c11
  try clear c12
  try clear c13
  try clear c14
  try clear c15
  try clear c16
  try clear c17
  try clear c18
  try clear c18b0
  try clear c18b1
  try clear c18b2
  try clear c19
  try clear c19b0
  try clear c19b1
  try clear c20
  try clear c20b0
  try clear c20b1
  try clear c20b2
  try clear c21
  try clear c21b0
  try clear c21b1
  try clear c22
  try clear c22b0
  try clear c22b1
  try clear c22b2
  try clear c23
  try clear c23b0
  try clear c23b1
  try clear c24
  try clear c24b0
  try clear c24b1
  try clear c24b2
  try clear c25
  try clear c27
  try clear c31
  try clear c32
  try clear c32b0
  try clear c32b1
  try clear c33
  try clear c34
  try clear c35
  try clear c38
  try clear c39
  try clear c39b0
  try clear c39b1
  try clear c41
  try clear c44
  try clear c45
  try clear c46
  try clear c46b0
  try clear c46b1
  try clear c47
  try clear c47b0
  try clear c47b1
  try clear p64
  try clear c71
  try clear c71b0
  try clear c71b1
  try clear c71b2
  try clear c72
  try clear c72b0
  try clear c72b1
  try clear c73
  try clear c73b0
  try clear c73b1
  try clear c73b2
  try clear c74
  try clear c74b0
  try clear c74b1
  try clear c75
  try clear c75b0
  try clear c75b1
  try clear c75b2
  try clear c76
  try clear c76b0
  try clear c76b1
  try clear c77
  try clear c77b0
  try clear c77b1
  try clear c77b2
  try clear c78
  try clear c80
  try clear c83
  try clear c84
  try clear c84b0
  try clear c84b1
  try clear c85
  try clear c86
  try clear c86b0
  try clear c86b1
  try clear c88
  try clear c90
  try clear c90b0
  try clear c91
  try clear c92
  try clear c92b0
  try clear c93
  try clear c93b0
  try clear c95
  try clear c96
  try clear c96b0
  try clear c96b1
  try clear c97
  try clear c97b0
  try clear c97b1
  try clear p2
  try clear p6
  try clear p64
  obtain ⟨kq, HA, HJ86, HB⟩ := hcut
  cases kq with
  | zero => exact absurd HA.out (by simp [laws_FnNumbersReflectOfAll.j8])
  | succ kj86 =>
    have H := HA.out
    clear HA
    simp only [laws_FnNumbersReflectOfAll.j8] at H
    by_cases c98 : t182 = true
    · subst c98
      have H1 : ((impl_RankOfText.f kj86 t181).bind fun bt195 => (if (t181.size : Int) = a7 then (if bt195.2 = true then (laws_FnNumbersReflectOfAll.j9 kj86 a8 t185 t186 (bt195.1 != a6)) else (laws_FnNumbersReflectOfAll.j9 kj86 a8 t185 t186 true)) else (laws_FnNumbersReflectOfAll.j9 kj86 a8 t185 t186 true))) = some r := by rw [if_pos rfl] at H; exact H
      clear H
      have H := H1
      clear H1
      replace H := Option.bind_eq_some_iff.mp H
      obtain ⟨⟨t195, t196⟩, A990, H⟩ := H
      replace H : (if (t181.size : Int) = a7 then (if t196 = true then (laws_FnNumbersReflectOfAll.j9 kj86 a8 t185 t186 (t195 != a6)) else (laws_FnNumbersReflectOfAll.j9 kj86 a8 t185 t186 true)) else (laws_FnNumbersReflectOfAll.j9 kj86 a8 t185 t186 true)) = some r := H
      have A99 := Aside0.mk A990
      clear A990
      have HC100 := Aside0.mk H
      clear H
      go_upto_region 55 with (first | ((with_reducible refine gate_callee (f := 12) rfl ?_); refine goesL_ (some 360) rfl rfl Tryd.func12 (by kernel_rfl) rfl #[.string t181] rfl (by (try simp only [List.map_toArray, List.map_cons, List.map_nil]); first | done | rfl | (simp only [List.length_drop, List.length_take]; rfl)) ?_; (with_reducible refine (impl_RankOfText.calls kj86 t181 t195 t196 _ A99.out).mono ?_); rintro e w101 ⟨rfl, hb⟩; refine ⟨_, rfl, ?_⟩; have n0_ := Aside0.mk (below_step (by repeat (first | (with_reducible first | exact HB.out | apply below_alloc | apply pw_below_drewN | apply below_drew1) | exact HB.out)) hb); clear HB; have HB := n0_; clear n0_; (try clear hb); (try clear hb2); (try clear hk); (try clear hi)))
      (try simp only [Act.put, List.setIfInBounds_toArray, List.set_cons_zero, List.set_cons_succ])
      refine wp_cutF [o_,o_,o_,o_,o_,o_,o_,o_,o_,o_,o_,o_,o_,o_,o_,o_,o_,o_,o_,o_,o_,o_,o_,o_,o_,o_,o_,o_,o_,o_,o_,o_,o_,o_,o_,o_,o_,o_,o_,o_,o_,o_,o_,o_,o_,o_,o_,o_,o_,o_,o_,o_,o_,o_,o_,o_,o_,o_,o_,o_,o_,o_,o_,o_,o_,o_,o_,o_,o_,i_,i_,i_,i_,i_,i_,i_,i_,i_,i_,i_,i_,i_,i_,i_,i_,i_,i_,i_,i_,i_,i_,i_,i_,i_,i_,i_,i_,i_,i_,i_,i_,i_,i_,i_,i_,i_,i_,i_,i_,i_,i_,i_,i_,i_,i_,i_,i_,i_,i_,i_,i_,i_,i_,i_,i_,i_,i_,i_,i_,i_,i_,i_,i_,i_,i_,i_,i_,i_,i_,i_,i_,i_,i_,i_,i_,i_,i_,i_,i_,i_,i_,i_,i_,i_,i_,i_,i_,i_,i_,i_,i_,i_,i_,i_,i_,i_,i_,i_,i_,i_,i_,i_,i_,i_,i_,i_,i_,i_,i_,i_,i_,i_,i_,i_,i_,i_,i_,i_,i_,i_,i_,i_,i_,i_,i_,i_,i_,i_,i_,i_,i_,i_,i_,i_,i_,i_,i_,i_,i_,i_,i_,i_,i_,i_,i_,i_,i_,i_,i_,i_,i_,i_,i_,i_,i_,i_,i_,i_,i_,i_,i_,i_,i_,i_,i_,i_,i_,i_,i_,i_,i_,i_,i_,i_,i_,i_,i_,i_,i_,i_,i_,i_,i_,i_,i_,i_,i_,i_,i_,i_,i_,i_,i_,i_,i_,i_,i_,i_,i_,i_,i_,i_,i_,i_,i_,i_,i_,i_,i_,i_,i_,i_,i_,i_,i_,i_,i_,i_,i_,i_,i_,i_,i_,i_,i_,i_,i_,i_,i_,i_,i_,i_,i_,i_,i_,i_,i_,i_,i_,i_,i_,i_,i_,i_,i_,i_,i_,i_,i_,i_,i_,i_,i_,i_,i_,i_,i_,i_,i_,i_,i_,i_,i_,i_,i_,i_,i_,i_,i_,i_,i_,i_,i_,i_,i_,i_,i_,i_,i_,i_,i_,i_,i_,i_,i_,i_,i_,i_,i_,i_,i_,i_,i_,i_,i_,i_,i_,i_,i_,i_,i_,i_,i_,i_,i_,i_,i_,i_,i_,i_,i_,i_,i_,i_,i_,i_,i_,i_,i_,i_,i_] (fun f_ wc => ∃ (kq : Nat) (x375_99 : Bool), (f_ 375) = .bool x375_99 ∧ Aside0 (laws_FnNumbersReflectOfAll.j9 kq a8 t185 t186 x375_99 = some r) ∧ Aside0 (kq ≤ kj86) ∧ Aside0 (Below w.heap.size w wc)) ?rest ?first
      case first =>
        intro J_ K_ hJ_ hK_
        have H := HC100.out
        clear HC100
        by_cases c102 : (t181.size : Int) = a7
        · rw [if_pos c102] at H
          have c102b0 : ((t181.size : Int) == a7) = true := beq_iff_eq.mpr c102
          have c102b1 : ((t181.size : Int) != a7) = false := bne_eq_false_iff_eq.mpr c102
          clear c102
          (first | rw [c102b0] | (simp only [i64_w, i32_w]; rw [c102b0]) | skip)
          by_cases c103 : t196 = true
          · subst c103
            have H1 : (laws_FnNumbersReflectOfAll.j9 kj86 a8 t185 t186 (t195 != a6)) = some r := by rw [if_pos rfl] at H; exact H
            clear H
            have H := H1
            clear H1
            have H' := Aside0.mk H
            clear H
            go_wp2
            refine Met.intro (hJ_ _ _ ?mg_ ?rel)
            case mg_ => kernel_rfl
            case rel => exact ⟨_, ((t195 != a6)), (by first | rfl | (simp; done) | (simp [*]; done)), H', ⟨by have := HJ16.out; have := HJ25.out; have := HJ65.out; have := HJ78.out; have := HJ86.out; first | omega | exact Nat.le_refl _⟩, ⟨by repeat (first | (with_reducible first | exact HB.out | apply below_alloc | apply pw_below_drewN | apply below_drew1) | exact HB.out)⟩⟩
          · replace c103 := Bool.eq_false_iff.mpr c103
            subst c103
            have H1 : (laws_FnNumbersReflectOfAll.j9 kj86 a8 t185 t186 true) = some r := by rw [if_neg (show ¬ (false = true) by decide)] at H; exact H
            clear H
            have H := H1
            clear H1
            have H' := Aside0.mk H
            clear H
            go_wp2
            refine Met.intro (hJ_ _ _ ?mg_ ?rel)
            case mg_ => kernel_rfl
            case rel => exact ⟨_, (true), (by first | rfl | (simp; done) | (simp [*]; done)), H', ⟨by have := HJ16.out; have := HJ25.out; have := HJ65.out; have := HJ78.out; have := HJ86.out; first | omega | exact Nat.le_refl _⟩, ⟨by repeat (first | (with_reducible first | exact HB.out | apply below_alloc | apply pw_below_drewN | apply below_drew1) | exact HB.out)⟩⟩
        · rw [if_neg c102] at H
          have c102b0 : ((t181.size : Int) == a7) = false := beq_eq_false_iff_ne.mpr c102
          have c102b1 : ((t181.size : Int) != a7) = true := bne_iff_ne.mpr c102
          (first | rw [c102b0] | (simp only [i64_w, i32_w]; rw [c102b0]) | skip)
          have H' := Aside0.mk H
          clear H
          go_wp2
          refine Met.intro (hJ_ _ _ ?mg_ ?rel)
          case mg_ => kernel_rfl
          case rel => exact ⟨_, (true), (by first | rfl | (simp; done) | (simp [*]; done)), H', ⟨by have := HJ16.out; have := HJ25.out; have := HJ65.out; have := HJ78.out; have := HJ86.out; first | omega | exact Nat.le_refl _⟩, ⟨by repeat (first | (with_reducible first | exact HB.out | apply below_alloc | apply pw_below_drewN | apply below_drew1) | exact HB.out)⟩⟩
      case rest =>
        intro f_ wc hcut
        dsimp only [maskF] at hcut ⊢
        generalize f_ 375 = u375 at hcut ⊢
        repeat revert ‹_›
        intro HP0_
        exact HP0_.out
    · replace c98 := Bool.eq_false_iff.mpr c98
      subst c98
      have H1 : (if t186 = true then ((impl_ReflectedText.f kj86 t185 (a8.size : Int)).bind fun bt199 => (if bt199.2 = true then (some (bt199.1.toList == a8.toList)) else (some true))) else (some true)) = some r := by rw [if_neg (show ¬ (false = true) by decide)] at H; exact H
      clear H
      have H := H1
      clear H1
      by_cases c110 : t186 = true
      · subst c110
        have H1 : ((impl_ReflectedText.f kj86 t185 (a8.size : Int)).bind fun bt199 => (if bt199.2 = true then (some (bt199.1.toList == a8.toList)) else (some true))) = some r := by rw [if_pos rfl] at H; exact H
        clear H
        have H := H1
        clear H1
        replace H := Option.bind_eq_some_iff.mp H
        obtain ⟨⟨t199, t200⟩, A1110, H⟩ := H
        replace H : (if t200 = true then (some (t199.toList == a8.toList)) else (some true)) = some r := H
        have A111 := Aside0.mk A1110
        clear A1110
        by_cases c112 : t200 = true
        · subst c112
          have H1 : (some (t199.toList == a8.toList)) = some r := by rw [if_pos rfl] at H; exact H
          clear H
          have H := H1
          clear H1
          obtain rfl := Option.some.inj H
          go_wp2_with (first | ((with_reducible refine gate_callee (f := 11) rfl ?_); refine goesL_ (some 381) rfl rfl Tryd.func11 (by kernel_rfl) rfl #[.int .i64 t185, .int .i64 (a8.size : Int)] rfl (by (try simp only [List.map_toArray, List.map_cons, List.map_nil]); first | done | rfl | (simp only [List.length_drop, List.length_take]; rfl)) ?_; (with_reducible refine (impl_ReflectedText.calls kj86 t185 (a8.size : Int) t199 true _ A111.out).mono ?_); rintro e w113 ⟨rfl, hb⟩; refine ⟨_, rfl, ?_⟩; have n0_ := Aside0.mk (below_step (by repeat (first | (with_reducible first | exact HB.out | apply below_alloc | apply pw_below_drewN | apply below_drew1) | exact HB.out)) hb); clear HB; have HB := n0_; clear n0_; (try clear hb); (try clear hb2); (try clear hk); (try clear hi)))
          go_ret
          exact ⟨by first | rfl | (simp [errW_none, errW_some] <;> rfl) | (simp [*, errW_none, errW_some] <;> rfl), by repeat (first | (with_reducible first | exact HB.out | apply below_alloc | apply pw_below_drewN | apply below_drew1) | exact HB.out)⟩
        · replace c112 := Bool.eq_false_iff.mpr c112
          subst c112
          have H1 : (some true) = some r := by rw [if_neg (show ¬ (false = true) by decide)] at H; exact H
          clear H
          have H := H1
          clear H1
          obtain rfl := Option.some.inj H
          go_wp2_with (first | ((with_reducible refine gate_callee (f := 11) rfl ?_); refine goesL_ (some 381) rfl rfl Tryd.func11 (by kernel_rfl) rfl #[.int .i64 t185, .int .i64 (a8.size : Int)] rfl (by (try simp only [List.map_toArray, List.map_cons, List.map_nil]); first | done | rfl | (simp only [List.length_drop, List.length_take]; rfl)) ?_; (with_reducible refine (impl_ReflectedText.calls kj86 t185 (a8.size : Int) t199 false _ A111.out).mono ?_); rintro e w114 ⟨rfl, hb⟩; refine ⟨_, rfl, ?_⟩; have n0_ := Aside0.mk (below_step (by repeat (first | (with_reducible first | exact HB.out | apply below_alloc | apply pw_below_drewN | apply below_drew1) | exact HB.out)) hb); clear HB; have HB := n0_; clear n0_; (try clear hb); (try clear hb2); (try clear hk); (try clear hi)))
          go_ret
          exact ⟨by first | rfl | (simp [errW_none, errW_some] <;> rfl) | (simp [*, errW_none, errW_some] <;> rfl), by repeat (first | (with_reducible first | exact HB.out | apply below_alloc | apply pw_below_drewN | apply below_drew1) | exact HB.out)⟩
      · replace c110 := Bool.eq_false_iff.mpr c110
        subst c110
        have H1 : (some true) = some r := by rw [if_neg (show ¬ (false = true) by decide)] at H; exact H
        clear H
        have H := H1
        clear H1
        obtain rfl := Option.some.inj H
        go_wp2
        go_ret
        exact ⟨by first | rfl | (simp [errW_none, errW_some] <;> rfl) | (simp [*, errW_none, errW_some] <;> rfl), by repeat (first | (with_reducible first | exact HB.out | apply below_alloc | apply pw_below_drewN | apply below_drew1) | exact HB.out)⟩

set_option maxHeartbeats 8000000 in
set_option maxRecDepth 100000 in
theorem laws_FnNumbersReflectOfAll.c13 : laws_FnNumbersReflectOfAll.c12.1 := by
  intro k a0 a1 a2 a3 a4 a5 a6 a7 a8 r w _ t151 t152 A11 t153 t154 A12 t155 t156 A13 t157 t158 A14 t159 t160 A15 t161 t162 A16 _ _ _ _ _ _ _ _ _ _ kj16 HJ16 _ _ kj25 HJ25 t173 t174 A58 t175 t176 A59 t177 t178 A60 t179 t180 A61 t181 t183 t184 A63 t185 t186 A64 t187 t188 A65 _ _ _ nd w67 w68 w69 w70 _ _ _ _ kj65 HJ65 _ _ _ kj78 HJ78 _ _ kj86 HJ86 A62 t195 t196 A99 HC100 _ _ w101 HB _ _ f_ wc u375 hcut
  clear HC100
  try clear c1
  try clear c2
  try clear p2
  try clear c3
  try clear c4
  try clear c5
  try clear c6
  try clear p6
  try clear c7
  try clear c8
  try clear c9
  try clear c10
  try clear c10b0
  try clear c10b1
  try clear c11
  try clear c12
  try clear c13
  try clear c14
  try clear c15
  try clear c16
  try clear c17
  try clear c18
  try clear c18b0
  try clear c18b1
  try clear c18b2
  try clear c19
  try clear c19b0
  try clear c19b1
  try clear c20
  try clear c20b0
  try clear c20b1
  try clear c20b2
  try clear c21
  try clear c21b0
  try clear c21b1
  try clear c22
  try clear c22b0
  try clear c22b1
  try clear c22b2
  try clear c23
  try clear c23b0
  try clear c23b1
  try clear c24
  try clear c24b0
  try clear c24b1
  try clear c24b2
  try clear c25
  try clear c27
  try clear c31
  try clear c32
  try clear c32b0
  try clear c32b1
  try clear c33
  try clear c34
  try clear c35
  try clear c38
  try clear c39
  try clear c39b0
  try clear c39b1
  try clear c41
  try clear c44
  try clear c45
  try clear c46
  try clear c46b0
  try clear c46b1
  try clear c47
  try clear c47b0
  try clear c47b1
  try clear p64
  try clear c71
  try clear c71b0
  try clear c71b1
  try clear c71b2
  try clear c72
  try clear c72b0
  try clear c72b1
  try clear c73
  try clear c73b0
  try clear c73b1
  try clear c73b2
  try clear c74
  try clear c74b0
  try clear c74b1
  try clear c75
  try clear c75b0
  try clear c75b1
  try clear c75b2
  try clear c76
  try clear c76b0
  try clear c76b1
  try clear c77
  try clear c77b0
  try clear c77b1
  try clear c77b2
  try clear c78
  try clear c80
  try clear c83
  try clear c84
  try clear c84b0
  try clear c84b1
  try clear c85
  try clear c86
  try clear c86b0
  try clear c86b1
  try clear c88
  try clear c90
  try clear c90b0
  try clear c91
  try clear c92
  try clear c92b0
  try clear c93
  try clear c93b0
  try clear c95
  try clear c96
  try clear c96b0
  try clear c96b1
  try clear c97
  try clear c97b0
  try clear c97b1
  try clear c98
  try clear c102
  try clear c102b0
  try clear c102b1
  try clear c103
  try clear p2
  try clear p6
  try clear p64
  obtain ⟨kq, x375_99, rfl, HA, HJ99, HB⟩ := hcut
  cases kq with
  | zero => exact absurd HA.out (by simp [laws_FnNumbersReflectOfAll.j9])
  | succ kj99 =>
    have H := HA.out
    clear HA
    simp only [laws_FnNumbersReflectOfAll.j9] at H
    by_cases c104 : x375_99 = true
    · subst c104
      have H1 : (some false) = some r := by rw [if_pos rfl] at H; exact H
      clear H
      have H := H1
      clear H1
      obtain rfl := Option.some.inj H
      go_wp2
      go_ret
      exact ⟨by first | rfl | (simp [errW_none, errW_some] <;> rfl) | (simp [*, errW_none, errW_some] <;> rfl), by repeat (first | (with_reducible first | exact HB.out | apply below_alloc | apply pw_below_drewN | apply below_drew1) | exact HB.out)⟩
    · replace c104 := Bool.eq_false_iff.mpr c104
      subst c104
      have H1 : (if t186 = true then ((impl_ReflectedText.f kj99 t185 (a8.size : Int)).bind fun bt197 => (if bt197.2 = true then (some (bt197.1.toList == a8.toList)) else (some true))) else (some true)) = some r := by rw [if_neg (show ¬ (false = true) by decide)] at H; exact H
      clear H
      have H := H1
      clear H1
      by_cases c105 : t186 = true
      · subst c105
        have H1 : ((impl_ReflectedText.f kj99 t185 (a8.size : Int)).bind fun bt197 => (if bt197.2 = true then (some (bt197.1.toList == a8.toList)) else (some true))) = some r := by rw [if_pos rfl] at H; exact H
        clear H
        have H := H1
        clear H1
        replace H := Option.bind_eq_some_iff.mp H
        obtain ⟨⟨t197, t198⟩, A1060, H⟩ := H
        replace H : (if t198 = true then (some (t197.toList == a8.toList)) else (some true)) = some r := H
        have A106 := Aside0.mk A1060
        clear A1060
        by_cases c107 : t198 = true
        · subst c107
          have H1 : (some (t197.toList == a8.toList)) = some r := by rw [if_pos rfl] at H; exact H
          clear H
          have H := H1
          clear H1
          obtain rfl := Option.some.inj H
          go_wp2_with (first | ((with_reducible refine gate_callee (f := 11) rfl ?_); refine goesL_ (some 381) rfl rfl Tryd.func11 (by kernel_rfl) rfl #[.int .i64 t185, .int .i64 (a8.size : Int)] rfl (by (try simp only [List.map_toArray, List.map_cons, List.map_nil]); first | done | rfl | (simp only [List.length_drop, List.length_take]; rfl)) ?_; (with_reducible refine (impl_ReflectedText.calls kj99 t185 (a8.size : Int) t197 true _ A106.out).mono ?_); rintro e w108 ⟨rfl, hb⟩; refine ⟨_, rfl, ?_⟩; have n0_ := Aside0.mk (below_step (by repeat (first | (with_reducible first | exact HB.out | apply below_alloc | apply pw_below_drewN | apply below_drew1) | exact HB.out)) hb); clear HB; have HB := n0_; clear n0_; (try clear hb); (try clear hb2); (try clear hk); (try clear hi)))
          go_ret
          exact ⟨by first | rfl | (simp [errW_none, errW_some] <;> rfl) | (simp [*, errW_none, errW_some] <;> rfl), by repeat (first | (with_reducible first | exact HB.out | apply below_alloc | apply pw_below_drewN | apply below_drew1) | exact HB.out)⟩
        · replace c107 := Bool.eq_false_iff.mpr c107
          subst c107
          have H1 : (some true) = some r := by rw [if_neg (show ¬ (false = true) by decide)] at H; exact H
          clear H
          have H := H1
          clear H1
          obtain rfl := Option.some.inj H
          go_wp2_with (first | ((with_reducible refine gate_callee (f := 11) rfl ?_); refine goesL_ (some 381) rfl rfl Tryd.func11 (by kernel_rfl) rfl #[.int .i64 t185, .int .i64 (a8.size : Int)] rfl (by (try simp only [List.map_toArray, List.map_cons, List.map_nil]); first | done | rfl | (simp only [List.length_drop, List.length_take]; rfl)) ?_; (with_reducible refine (impl_ReflectedText.calls kj99 t185 (a8.size : Int) t197 false _ A106.out).mono ?_); rintro e w109 ⟨rfl, hb⟩; refine ⟨_, rfl, ?_⟩; have n0_ := Aside0.mk (below_step (by repeat (first | (with_reducible first | exact HB.out | apply below_alloc | apply pw_below_drewN | apply below_drew1) | exact HB.out)) hb); clear HB; have HB := n0_; clear n0_; (try clear hb); (try clear hb2); (try clear hk); (try clear hi)))
          go_ret
          exact ⟨by first | rfl | (simp [errW_none, errW_some] <;> rfl) | (simp [*, errW_none, errW_some] <;> rfl), by repeat (first | (with_reducible first | exact HB.out | apply below_alloc | apply pw_below_drewN | apply below_drew1) | exact HB.out)⟩
      · replace c105 := Bool.eq_false_iff.mpr c105
        subst c105
        have H1 : (some true) = some r := by rw [if_neg (show ¬ (false = true) by decide)] at H; exact H
        clear H
        have H := H1
        clear H1
        obtain rfl := Option.some.inj H
        go_wp2
        go_ret
        exact ⟨by first | rfl | (simp [errW_none, errW_some] <;> rfl) | (simp [*, errW_none, errW_some] <;> rfl), by repeat (first | (with_reducible first | exact HB.out | apply below_alloc | apply pw_below_drewN | apply below_drew1) | exact HB.out)⟩

theorem laws_FnNumbersReflectOfAll.d12 : laws_FnNumbersReflectOfAll.c8.2.1 := laws_FnNumbersReflectOfAll.c12.2 ⟨laws_FnNumbersReflectOfAll.c13⟩

theorem laws_FnNumbersReflectOfAll.d10 : laws_FnNumbersReflectOfAll.c9.1 := laws_FnNumbersReflectOfAll.c10.2 ⟨laws_FnNumbersReflectOfAll.c11⟩

theorem laws_FnNumbersReflectOfAll.d9 : laws_FnNumbersReflectOfAll.c8.1 := laws_FnNumbersReflectOfAll.c9.2 ⟨laws_FnNumbersReflectOfAll.d10⟩

theorem laws_FnNumbersReflectOfAll.d8 : laws_FnNumbersReflectOfAll.c6.2.1 := laws_FnNumbersReflectOfAll.c8.2.2 ⟨laws_FnNumbersReflectOfAll.d9⟩ ⟨laws_FnNumbersReflectOfAll.d12⟩

theorem laws_FnNumbersReflectOfAll.d6 : laws_FnNumbersReflectOfAll.c5.1 := laws_FnNumbersReflectOfAll.c6.2.2 ⟨laws_FnNumbersReflectOfAll.c7⟩ ⟨laws_FnNumbersReflectOfAll.d8⟩

theorem laws_FnNumbersReflectOfAll.d5 : laws_FnNumbersReflectOfAll.c1.2.1 := laws_FnNumbersReflectOfAll.c5.2 ⟨laws_FnNumbersReflectOfAll.d6⟩

theorem laws_FnNumbersReflectOfAll.d3 : laws_FnNumbersReflectOfAll.c2.1 := laws_FnNumbersReflectOfAll.c3.2 ⟨laws_FnNumbersReflectOfAll.c4⟩

theorem laws_FnNumbersReflectOfAll.d2 : laws_FnNumbersReflectOfAll.c1.1 := laws_FnNumbersReflectOfAll.c2.2 ⟨laws_FnNumbersReflectOfAll.d3⟩

theorem laws_FnNumbersReflectOfAll.d1 : laws_FnNumbersReflectOfAll.c0.1 := laws_FnNumbersReflectOfAll.c1.2.2 ⟨laws_FnNumbersReflectOfAll.d2⟩ ⟨laws_FnNumbersReflectOfAll.d5⟩

theorem laws_FnNumbersReflectOfAll.calls (k : Nat) (a0 : Int) (a1 : Int) (a2 : Int) (a3 : Int) (a4 : Int) (a5 : Int) (a6 : Int) (a7 : Int) (a8 : ByteArray) (r : Bool) (w : World) (h : laws_FnNumbersReflectOfAll.f k a0 a1 a2 a3 a4 a5 a6 a7 a8 = some r) :
    Calls Tryd.prog 3 #[.int .i64 a0, .int .i64 a1, .int .i64 a2, .int .i64 a3, .int .i64 a4, .int .i64 a5, .int .i64 a6, .int .i64 a7, .string a8] w fun e w' => e = .returned (.bool r) ∧ Below w.heap.size w w' := laws_FnNumbersReflectOfAll.c0.2 ⟨laws_FnNumbersReflectOfAll.d1⟩ k a0 a1 a2 a3 a4 a5 a6 a7 a8 r w h
theorem laws_FnNumbersReflectOfAll.walk (P : laws_FnNumbersReflectOfAll.Pure) (a0 : Int) (a1 : Int) (a2 : Int) (a3 : Int) (a4 : Int) (a5 : Int) (a6 : Int) (a7 : Int) (a8 : ByteArray) (w : World) (w0 : (Lit.int .i64 a0).wf = true) (w1 : (Lit.int .i64 a1).wf = true) (w2 : (Lit.int .i64 a2).wf = true) (w3 : (Lit.int .i64 a3).wf = true) (w4 : (Lit.int .i64 a4).wf = true) (w5 : (Lit.int .i64 a5).wf = true) (w6 : (Lit.int .i64 a6).wf = true) (w7 : (Lit.int .i64 a7).wf = true) (w8 : a8.size ≤ 140737488351232) :
    Calls Tryd.prog 3 #[.int .i64 a0, .int .i64 a1, .int .i64 a2, .int .i64 a3, .int .i64 a4, .int .i64 a5, .int .i64 a6, .int .i64 a7, .string a8] w fun e w' => e = .returned (.bool true) ∧ Below w.heap.size w w' := by
  obtain ⟨k, h⟩ := P a0 a1 a2 a3 a4 a5 a6 a7 a8 w0 w1 w2 w3 w4 w5 w6 w7 w8
  refine (laws_FnNumbersReflectOfAll.calls k a0 a1 a2 a3 a4 a5 a6 a7 a8 true w h).mono ?_
  rintro e w' ⟨rfl, hd⟩
  exact ⟨rfl, hd⟩

end Go.Proofs.YtcejcobbfpbpoaaDoor.A
