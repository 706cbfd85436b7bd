-- written by a program of this session's over the kit's print (xp.py)
import Derived.Test.YtcejcobbfpbpoaaDoorAx0
import Derived.Test.YtcejcobbfpbpoaaDoorAx1
import Derived.Test.YtcejcobbfpbpoaaDoorAx3
namespace Go.Proofs.YtcejcobbfpbpoaaDoor.A
open Go.RowKit Go.Proofs.YtcejcobbfpbpoaaDoorW.PrintWords Go.Proofs.YtcejcobbfpbpoaaDoorW.PrintLast Go.Proofs.YtcejcobbfpbpoaaDoorW.PrintMore
attribute [local go_sem] max2_int min2_int max_two min_two max_three min_three max_four min_four   -- for this text's walks alone
set_option linter.unusedVariables false
set_option linter.unusedSimpArgs false

/-! ### spec_ReflectedText: function 16 -/
mutual
def spec_ReflectedText.j0 : Nat → Int → Int → Bool → Option (ByteArray × Bool)
  | 0, _, _, _ => none
  | k + 1, x0, x1, x22 => if x22 = true then (some ((⟨#[]⟩ : ByteArray), false)) else (spec_ReflectedText.l0 k x0 (⟨#[]⟩ : ByteArray) (wrap64 (x1 - 1)))
def spec_ReflectedText.l0 : Nat → Int → ByteArray → Int → Option (ByteArray × Bool)
  | 0, _, _, _ => none
  | k + 1, x0, x6, x7 => if x7 ≥ 0 then ((spec_nuOf.f x0).bind fun t149 => (if 0 ≤ x7 then ((spec_l1Num.f k (Go.bits .and .i64 (shr .i64 t149 x7) 1)).bind fun t150 => (if x6.size + t150.size ≤ 9223372036854775807 then (spec_ReflectedText.l0 k x0 (x6 ++ t150) (wrap64 (x7 - 1))) else (none))) else (none))) else (some (x6, true))
end
def spec_ReflectedText.f (k : Nat) (a0 : Int) (a1 : Int) : Option (ByteArray × Bool) := (spec_nuIs.f a0).bind fun t146 => (if t146 = true then ((spec_l1In.f a1 1 40).bind fun t147 => (if t147 = true then ((spec_nuOf.f a0).bind fun t148 => (if 0 ≤ a1 then (spec_ReflectedText.j0 k a0 a1 (decide ((shr .i64 t148 a1) > 0))) else (none))) else (spec_ReflectedText.j0 k a0 a1 true))) else (spec_ReflectedText.j0 k a0 a1 true))
theorem spec_ReflectedText.mono_l : ∀ k, (∀ y0 y1 y2, LeO (spec_ReflectedText.j0 k y0 y1 y2) (spec_ReflectedText.j0 (k + 1) y0 y1 y2)) ∧ (∀ y0 y1 y2, LeO (spec_ReflectedText.l0 k y0 y1 y2) (spec_ReflectedText.l0 (k + 1) y0 y1 y2))
  | 0 => ⟨fun _ _ _ r h => by simp [spec_ReflectedText.j0] at h, fun _ _ _ r h => by simp [spec_ReflectedText.l0] at h⟩
  | k + 1 => by
    obtain ⟨ih0, ih1⟩ := spec_ReflectedText.mono_l k
    refine ⟨?_, ?_⟩
    · intro y0 y1 y2
      unfold spec_ReflectedText.j0
      repeat' first
      | (with_reducible exact ih0 _ _ _)
      | (with_reducible exact ih1 _ _ _)
      | (with_reducible exact spec_l1Num.mono _ _)
      | (with_reducible exact LeO.refl _)
      | (with_reducible exact LeO.none _)
      | (with_reducible refine LeO.ite ?_ ?_)
      | (with_reducible refine LeO.bind ?_ (fun _ => ?_))
      | exact ih0 _ _ _
      | exact ih1 _ _ _
      | exact spec_l1Num.mono _ _
      | exact LeO.none _
      | refine LeO.ite ?_ ?_
      | refine LeO.bind ?_ (fun _ => ?_)
    · intro y0 y1 y2
      unfold spec_ReflectedText.l0
      repeat' first
      | (with_reducible exact ih0 _ _ _)
      | (with_reducible exact ih1 _ _ _)
      | (with_reducible exact spec_l1Num.mono _ _)
      | (with_reducible exact LeO.refl _)
      | (with_reducible exact LeO.none _)
      | (with_reducible refine LeO.ite ?_ ?_)
      | (with_reducible refine LeO.bind ?_ (fun _ => ?_))
      | exact ih0 _ _ _
      | exact ih1 _ _ _
      | exact spec_l1Num.mono _ _
      | exact LeO.none _
      | refine LeO.ite ?_ ?_
      | refine LeO.bind ?_ (fun _ => ?_)
theorem spec_ReflectedText.mono : ∀ a0 a1 k, LeO (spec_ReflectedText.f k a0 a1) (spec_ReflectedText.f (k + 1) a0 a1) := by
  intro a0 a1 k
  obtain ⟨ih0, ih1⟩ := spec_ReflectedText.mono_l k
  unfold spec_ReflectedText.f
  repeat' first
      | (with_reducible exact ih0 _ _ _)
      | (with_reducible exact ih1 _ _ _)
      | (with_reducible exact spec_l1Num.mono _ _)
      | (with_reducible exact LeO.refl _)
      | (with_reducible exact LeO.none _)
      | (with_reducible refine LeO.ite ?_ ?_)
      | (with_reducible refine LeO.bind ?_ (fun _ => ?_))
      | exact ih0 _ _ _
      | exact ih1 _ _ _
      | exact spec_l1Num.mono _ _
      | exact LeO.none _
      | refine LeO.ite ?_ ?_
      | refine LeO.bind ?_ (fun _ => ?_)
set_option maxHeartbeats 8000000 in
set_option maxRecDepth 100000 in
theorem spec_ReflectedText.calls (k : Nat) (a0 : Int) (a1 : Int) (r1 : ByteArray) (r2 : Bool) (w : World) (h : spec_ReflectedText.f k a0 a1 = some (r1, r2)) :
    Calls Tryd.prog 16 #[.int .i64 a0, .int .i64 a1] w fun e w' => e = .returned (.tuple #[.string r1, .bool r2]) ∧ Below w.heap.size w w' := by
  have HB := Aside0.mk (Below.refl w.heap.size w)
  have H : ((spec_nuIs.f a0).bind fun t146 => (if t146 = true then ((spec_l1In.f a1 1 40).bind fun t147 => (if t147 = true then ((spec_nuOf.f a0).bind fun t148 => (if 0 ≤ a1 then (spec_ReflectedText.j0 k a0 a1 (decide ((shr .i64 t148 a1) > 0))) else (none))) else (spec_ReflectedText.j0 k a0 a1 true))) else (spec_ReflectedText.j0 k a0 a1 true))) = some (r1, r2) := h
  clear h
  have HC3 := Aside0.mk H
  clear H
  go_enter Tryd.func16, Tryd.ntmps16
  go_upto_region 1 with (fail)
  go_cut [22] (fun v22 wc => ∃ (kq : Nat) (x22_2 : Bool), v22 = .bool x22_2 ∧ Aside0 (spec_ReflectedText.j0 kq a0 a1 x22_2 = some (r1, r2)) ∧ Aside0 (kq ≤ k) ∧ Aside0 (Below w.heap.size w wc))
  case first =>
    have H := HC3.out
    clear HC3
    replace H := Option.bind_eq_some_iff.mp H
    obtain ⟨t146, A40, H⟩ := H
    replace H : (if t146 = true then ((spec_l1In.f a1 1 40).bind fun t147 => (if t147 = true then ((spec_nuOf.f a0).bind fun t148 => (if 0 ≤ a1 then (spec_ReflectedText.j0 k a0 a1 (decide ((shr .i64 t148 a1) > 0))) else (none))) else (spec_ReflectedText.j0 k a0 a1 true))) else (spec_ReflectedText.j0 k a0 a1 true)) = some (r1, r2) := H
    have A4 := Aside0.mk A40
    clear A40
    by_cases c5 : t146 = true
    · subst c5
      have H1 : ((spec_l1In.f a1 1 40).bind fun t147 => (if t147 = true then ((spec_nuOf.f a0).bind fun t148 => (if 0 ≤ a1 then (spec_ReflectedText.j0 k a0 a1 (decide ((shr .i64 t148 a1) > 0))) else (none))) else (spec_ReflectedText.j0 k a0 a1 true))) = some (r1, r2) := by rw [if_pos rfl] at H; exact H
      clear H
      have H := H1
      clear H1
      replace H := Option.bind_eq_some_iff.mp H
      obtain ⟨t147, A60, H⟩ := H
      replace H : (if t147 = true then ((spec_nuOf.f a0).bind fun t148 => (if 0 ≤ a1 then (spec_ReflectedText.j0 k a0 a1 (decide ((shr .i64 t148 a1) > 0))) else (none))) else (spec_ReflectedText.j0 k a0 a1 true)) = some (r1, r2) := H
      have A6 := Aside0.mk A60
      clear A60
      by_cases c7 : t147 = true
      · subst c7
        have H1 : ((spec_nuOf.f a0).bind fun t148 => (if 0 ≤ a1 then (spec_ReflectedText.j0 k a0 a1 (decide ((shr .i64 t148 a1) > 0))) else (none))) = some (r1, r2) := by rw [if_pos rfl] at H; exact H
        clear H
        have H := H1
        clear H1
        replace H := Option.bind_eq_some_iff.mp H
        obtain ⟨t148, A80, H⟩ := H
        replace H : (if 0 ≤ a1 then (spec_ReflectedText.j0 k a0 a1 (decide ((shr .i64 t148 a1) > 0))) else (none)) = some (r1, r2) := H
        have A8 := Aside0.mk A80
        clear A80
        by_cases c9 : 0 ≤ a1
        · rw [if_pos c9] at H
          have c9b0 := eq_true c9
          have c9b1 : decide (0 ≤ a1) = true := decide_eq_true c9
          clear c9
          obtain ⟨ji10, hji10⟩ : ∃ j_ : Int, (shr .i64 t148 a1) = j_ := ⟨_, rfl⟩
          replace H : (spec_ReflectedText.j0 k a0 a1 (decide ((ji10) > 0))) = some (r1, r2) := by first | (rw [hji10] at H; exact H) | (simp only [hji10] at H ⊢; exact H)
          (try rw [hji10] at A4)
          (try rw [hji10] at A6)
          (try rw [hji10] at A8)
          have hji10_ : (t148 / 2 ^ min a1.toNat 64) = ji10 := hji10
          have hji10z : a1 ≤ 64 → (t148 / 2 ^ a1.toNat) = ji10 := shr_small hji10
          have H' := Aside0.mk H
          clear H
          go_wp2_with (first | ((with_reducible refine gate_callee (f := 19) rfl ?_); refine goesL_ (some 9) rfl rfl Tryd.func19 (by kernel_rfl) rfl #[.int .i64 a0] rfl (by (try simp only [List.map_toArray, List.map_cons, List.map_nil]); first | done | rfl | (simp only [List.length_drop, List.length_take]; rfl)) ?_; (with_reducible refine (spec_nuIs.calls a0 true _ A4.out).mono ?_); rintro e w' ⟨rfl, ⟨nd, rfl⟩⟩; refine ⟨_, rfl, ?_⟩) | (go_at_call 30; (with_reducible refine (spec_l1In.calls a1 1 40 true _ A6.out).mono ?_); rintro e w' ⟨rfl, ⟨nd, rfl⟩⟩) | (go_at_call 20; (with_reducible refine (spec_nuOf.calls a0 t148 _ A8.out).mono ?_); rintro e w' ⟨rfl, ⟨nd, rfl⟩⟩))
          go_meet
          case rel => exact ⟨_, (decide ((ji10) > 0)), (by first | rfl | (simp; done) | (simp only [← hji10] <;> (first | rfl | simp)) | (simp [*]; done)), H', ⟨by first | omega | exact Nat.le_refl _⟩, ⟨by repeat (first | (with_reducible first | exact HB.out | apply below_alloc | apply pw_below_drewN | apply below_drew1) | exact HB.out)⟩⟩
        · rw [if_neg c9] at H
          exact absurd H (by simp)
      · replace c7 := Bool.eq_false_iff.mpr c7
        subst c7
        have H1 : (spec_ReflectedText.j0 k a0 a1 true) = some (r1, r2) := by rw [if_neg (show ¬ (false = true) by decide)] at H; exact H
        clear H
        have H := H1
        clear H1
        have H' := Aside0.mk H
        clear H
        go_wp2_with (first | ((with_reducible refine gate_callee (f := 19) rfl ?_); refine goesL_ (some 9) rfl rfl Tryd.func19 (by kernel_rfl) rfl #[.int .i64 a0] rfl (by (try simp only [List.map_toArray, List.map_cons, List.map_nil]); first | done | rfl | (simp only [List.length_drop, List.length_take]; rfl)) ?_; (with_reducible refine (spec_nuIs.calls a0 true _ A4.out).mono ?_); rintro e w' ⟨rfl, ⟨nd, rfl⟩⟩; refine ⟨_, rfl, ?_⟩) | (go_at_call 30; (with_reducible refine (spec_l1In.calls a1 1 40 false _ A6.out).mono ?_); rintro e w' ⟨rfl, ⟨nd, rfl⟩⟩))
        go_meet
        case rel => exact ⟨_, (true), (by first | rfl | (simp; done) | (simp [*]; done)), H', ⟨by first | omega | exact Nat.le_refl _⟩, ⟨by repeat (first | (with_reducible first | exact HB.out | apply below_alloc | apply pw_below_drewN | apply below_drew1) | exact HB.out)⟩⟩
    · replace c5 := Bool.eq_false_iff.mpr c5
      subst c5
      have H1 : (spec_ReflectedText.j0 k a0 a1 true) = some (r1, r2) := by rw [if_neg (show ¬ (false = true) by decide)] at H; exact H
      clear H
      have H := H1
      clear H1
      have H' := Aside0.mk H
      clear H
      go_wp2_with (first | ((with_reducible refine gate_callee (f := 19) rfl ?_); refine goesL_ (some 9) rfl rfl Tryd.func19 (by kernel_rfl) rfl #[.int .i64 a0] rfl (by (try simp only [List.map_toArray, List.map_cons, List.map_nil]); first | done | rfl | (simp only [List.length_drop, List.length_take]; rfl)) ?_; (with_reducible refine (spec_nuIs.calls a0 false _ A4.out).mono ?_); rintro e w' ⟨rfl, ⟨nd, rfl⟩⟩; refine ⟨_, rfl, ?_⟩))
      go_meet
      case rel => exact ⟨_, (true), (by first | rfl | (simp; done) | (simp [*]; done)), H', ⟨by first | omega | exact Nat.le_refl _⟩, ⟨by repeat (first | (with_reducible first | exact HB.out | apply below_alloc | apply pw_below_drewN | apply below_drew1) | exact HB.out)⟩⟩
  case rest =>
    clear HC3
    try clear c1
    try clear p2
    try clear c5
    try clear c7
    try clear c9
    try clear c9b0
    try clear c9b1
    obtain ⟨kq, x22_2, rfl, HA, HJ2, HB⟩ := hcut
    cases kq with
    | zero => exact absurd HA.out (by simp [spec_ReflectedText.j0])
    | succ kj2 =>
      have H := HA.out
      clear HA
      simp only [spec_ReflectedText.j0] at H
      by_cases c11 : x22_2 = true
      · subst c11
        have H1 : (some ((⟨#[]⟩ : ByteArray), false)) = some (r1, r2) := by rw [if_pos rfl] at H; exact H
        clear H
        have H := H1
        clear H1
        simp only [Option.some.injEq, Prod.mk.injEq] at H
        obtain ⟨rfl, rfl⟩ := H
        go_wp2
        go_ret2
        exact ⟨by first | rfl | (simp [errW_none, errW_some] <;> rfl) | (simp [*, errW_none, errW_some] <;> rfl), by repeat (first | (with_reducible first | exact HB.out | apply below_alloc | apply pw_below_drewN | apply below_drew1) | exact HB.out)⟩
      · replace c11 := Bool.eq_false_iff.mpr c11
        subst c11
        have H1 : (spec_ReflectedText.l0 kj2 a0 (⟨#[]⟩ : ByteArray) (wrap64 (a1 - 1))) = some (r1, r2) := by rw [if_neg (show ¬ (false = true) by decide)] at H; exact H
        clear H
        have H := H1
        clear H1
        have H' := Aside0.mk H
        clear H
        go_wp2
        go_loopg [6, 7] kj2 (fun kq v6 v7 w' => ∃ (x6_2 : ByteArray) (x7_2 : Int), v6 = .string x6_2 ∧ v7 = .int .i64 x7_2 ∧ Aside0 (spec_ReflectedText.l0 kq a0 x6_2 x7_2 = some (r1, r2)) ∧ Aside0 (kq ≤ kj2) ∧ Aside0 (Below w.heap.size w w'))
        case atStart => exact ⟨((⟨#[]⟩ : ByteArray)), (wrap64 (a1 - 1)), (by first | rfl | (simp; done) | (simp [*]; done)), (by first | rfl | (simp; done) | (simp [*]; done)), H', ⟨Nat.le_refl _⟩, ⟨by repeat (first | (with_reducible first | exact HB.out | apply below_alloc | apply pw_below_drewN | apply below_drew1) | exact HB.out)⟩⟩
        case round =>
          clear H'
          try clear c1
          try clear p2
          try clear c5
          try clear p6
          try clear c7
          try clear c9
          try clear c9b0
          try clear c9b1
          try clear c11
          try clear p2
          obtain ⟨x6_2, x7_2, rfl, rfl, HA, HK2, HB⟩ := hrel
          cases gk with
          | zero => exact absurd HA.out (by simp [spec_ReflectedText.l0])
          | succ k2 =>
            have H := HA.out
            clear HA
            simp only [spec_ReflectedText.l0] at H
            by_cases c12 : x7_2 ≥ 0
            · rw [if_pos c12] at H
              have c12b0 : decide (0 ≤ x7_2) = true := decide_eq_true c12
              clear c12
              replace H := Option.bind_eq_some_iff.mp H
              obtain ⟨t149, A130, H⟩ := H
              replace H : (if 0 ≤ x7_2 then ((spec_l1Num.f k2 (Go.bits .and .i64 (shr .i64 t149 x7_2) 1)).bind fun t150 => (if x6_2.size + t150.size ≤ 9223372036854775807 then (spec_ReflectedText.l0 k2 a0 (x6_2 ++ t150) (wrap64 (x7_2 - 1))) else (none))) else (none)) = some (r1, r2) := H
              have A13 := Aside0.mk A130
              clear A130
              by_cases c14 : 0 ≤ x7_2
              · rw [if_pos c14] at H
                have c14b0 := eq_true c14
                have c14b1 : decide (0 ≤ x7_2) = true := decide_eq_true c14
                clear c14
                obtain ⟨ji15, hji15⟩ : ∃ j_ : Int, (shr .i64 t149 x7_2) = j_ := ⟨_, rfl⟩
                replace H : ((spec_l1Num.f k2 (Go.bits .and .i64 (ji15) 1)).bind fun t150 => (if x6_2.size + t150.size ≤ 9223372036854775807 then (spec_ReflectedText.l0 k2 a0 (x6_2 ++ t150) (wrap64 (x7_2 - 1))) else (none))) = some (r1, r2) := by first | (rw [hji15] at H; exact H) | (simp only [hji15] at H ⊢; exact H)
                (try rw [hji15] at A13)
                have hji15_ : (t149 / 2 ^ min x7_2.toNat 64) = ji15 := hji15
                have hji15z : x7_2 ≤ 64 → (t149 / 2 ^ x7_2.toNat) = ji15 := shr_small hji15
                replace H := Option.bind_eq_some_iff.mp H
                obtain ⟨t150, A160, H⟩ := H
                replace H : (if x6_2.size + t150.size ≤ 9223372036854775807 then (spec_ReflectedText.l0 k2 a0 (x6_2 ++ t150) (wrap64 (x7_2 - 1))) else (none)) = some (r1, r2) := H
                have A16 := Aside0.mk A160
                clear A160
                by_cases c17 : x6_2.size + t150.size ≤ 9223372036854775807
                · rw [if_pos c17] at H
                  have c17b0 := eq_true c17
                  have c17b1 : decide (x6_2.size + t150.size ≤ 9223372036854775807) = true := decide_eq_true c17
                  try have c17b2 : (9223372036854775807 < x6_2.size + t150.size) = False := eq_false (Nat.not_lt.2 c17)
                  have H' := Aside0.mk H
                  clear H
                  go_wp2_with (first | ((with_reducible refine gate_callee (f := 20) rfl ?_); refine goesL_ (some 31) rfl rfl Tryd.func20 (by kernel_rfl) rfl #[.int .i64 a0] rfl (by (try simp only [List.map_toArray, List.map_cons, List.map_nil]); first | done | rfl | (simp only [List.length_drop, List.length_take]; rfl)) ?_; (with_reducible refine (spec_nuOf.calls a0 t149 _ A13.out).mono ?_); rintro e w' ⟨rfl, ⟨nd, rfl⟩⟩; refine ⟨_, rfl, ?_⟩) | ((with_reducible refine gate_callee (f := 32) rfl ?_); refine goesL_ (some 35) rfl rfl Tryd.func32 (by kernel_rfl) rfl #[.int .i64 (Go.bits .and .i64 (ji15) 1)] rfl (by (try simp only [List.map_toArray, List.map_cons, List.map_nil]); first | done | (simp only [hji15]; rfl) | rfl | (simp only [List.length_drop, List.length_take]; rfl)) ?_; (with_reducible refine (spec_l1Num.calls k2 (Go.bits .and .i64 (ji15) 1) t150 _ A16.out).mono ?_); rintro e w18 ⟨rfl, hb⟩; refine ⟨_, rfl, ?_⟩; have n0_ := Aside0.mk (below_step (by repeat (first | (with_reducible first | exact HB.out | apply below_alloc | apply pw_below_drewN | apply below_drew1) | exact HB.out)) hb); clear HB; have HB := n0_; clear n0_; (try clear hb); (try clear hb2); (try clear hk); (try clear hi)))
                  go_roundg k2
                  case measure => have := HJ2.out; have := HK2.out; omega
                  case rel => exact ⟨(x6_2 ++ t150), (wrap64 (x7_2 - 1)), (by first | rfl | (simp; done) | (simp [*]; done)), (by first | rfl | (simp; done) | (simp [*]; done)), H', ⟨by have := HJ2.out; have := HK2.out; omega⟩, ⟨by repeat (first | (with_reducible first | exact HB.out | apply below_alloc | apply pw_below_drewN | apply below_drew1) | exact HB.out)⟩⟩
                · rw [if_neg c17] at H
                  exact absurd H (by simp)
              · rw [if_neg c14] at H
                exact absurd H (by simp)
            · rw [if_neg c12] at H
              have c12b0 : decide (0 ≤ x7_2) = false := decide_eq_false c12
              clear c12
              simp only [Option.some.injEq, Prod.mk.injEq] at H
              obtain ⟨rfl, rfl⟩ := H
              go_wp2
              go_ret2
              exact ⟨by first | rfl | (simp [errW_none, errW_some] <;> rfl) | (simp [*, errW_none, errW_some] <;> rfl), by repeat (first | (with_reducible first | exact HB.out | apply below_alloc | apply pw_below_drewN | apply below_drew1) | exact HB.out)⟩

/-! ### spec_RankOfText: a round for each place of the text -/
def spec_RankOfText.l0 : Nat → ByteArray → Int → Nat → Option (Int × Bool)
  | 0, _, _, _ => none
  | k + 1, x0, g, p => if h : p < x0.size then (if (x0[p]'h).toNat = 48 ∨ (x0[p]'h).toNat = 49 then spec_RankOfText.l0 k x0 (wrap64 ((wrap64 (2 * g)) + (((bt x0 (p : Int)) - 48) % 256))) (p + 1) else some (0, false)) else (spec_nuBack.f k g).bind fun t => some (t, true)
def spec_RankOfText.f (k : Nat) (a0 : ByteArray) : Option (Int × Bool) := (spec_l1In.f (a0.size : Int) 1 40).bind fun t => if t = true then spec_RankOfText.l0 k a0 0 0 else some (0, false)
theorem spec_RankOfText.mono_l : ∀ k, (∀ y0 y1 y2, LeO (spec_RankOfText.l0 k y0 y1 y2) (spec_RankOfText.l0 (k + 1) y0 y1 y2))
  | 0 => fun _ _ _ r h => by simp [spec_RankOfText.l0] at h
  | k + 1 => by
    have ih0 := spec_RankOfText.mono_l k
    intro y0 y1 y2
    unfold spec_RankOfText.l0
    by_cases h : y2 < y0.size
    · rw [dif_pos h, dif_pos h]
      by_cases hc : (y0[y2]'h).toNat = 48 ∨ (y0[y2]'h).toNat = 49
      · rw [if_pos hc, if_pos hc]; exact ih0 _ _ _
      · rw [if_neg hc, if_neg hc]; exact LeO.refl _
    · rw [dif_neg h, dif_neg h]
      exact LeO.bind (spec_nuBack.mono _ _) (fun _ => LeO.refl _)
theorem spec_RankOfText.mono : ∀ a0 k, LeO (spec_RankOfText.f k a0) (spec_RankOfText.f (k + 1) a0) := by
  intro a0 k
  unfold spec_RankOfText.f
  cases spec_l1In.f (a0.size : Int) 1 40 with
  | none => exact LeO.refl _
  | some t =>
    show LeO (if t = true then _ else _) (if t = true then _ else _)
    cases t
    · exact LeO.refl _
    · exact spec_RankOfText.mono_l k _ _ _
set_option maxHeartbeats 8000000 in
set_option maxRecDepth 100000 in
theorem spec_RankOfText.calls (k : Nat) (a0 : ByteArray) (r1 : Int) (r2 : Bool) (w : World) (h : spec_RankOfText.f k a0 = some (r1, r2)) :
    Calls Tryd.prog 17 #[.string a0] w fun e w' => e = .returned (.tuple #[.int .i64 r1, .bool r2]) ∧ Below w.heap.size w w' := by
  unfold spec_RankOfText.f at h
  obtain ⟨t, A1, H⟩ := Option.bind_eq_some_iff.mp h
  clear h
  cases t
  · rw [if_neg (by decide)] at H
    simp only [Option.some.injEq, Prod.mk.injEq] at H
    obtain ⟨rfl, rfl⟩ := H
    go_enter Tryd.func17, Tryd.ntmps17
    go_wp2_with (first | ((with_reducible refine gate_callee (f := 30) rfl ?_); refine goesL_ (some 8) rfl rfl Tryd.func30 (by kernel_rfl) rfl #[.int .i64 (a0.size : Int), .int .i64 1, .int .i64 40] rfl (by (try simp only [List.map_toArray, List.map_cons, List.map_nil]); first | done | rfl) ?_; (with_reducible refine (spec_l1In.calls (a0.size : Int) 1 40 false _ A1).mono ?_); rintro e w6 ⟨rfl, ⟨n6, rfl⟩⟩; refine ⟨_, rfl, ?_⟩))
    go_ret2
    exact ⟨rfl, by repeat (first | exact Below.refl _ w | apply pw_below_drewN | apply below_drew1)⟩
  · rw [if_pos rfl] at H
    have H' : Aside0 (spec_RankOfText.l0 k a0 0 0 = some (r1, r2)) := Aside0.mk H
    clear H
    go_enter Tryd.func17, Tryd.ntmps17
    go_wp2_with (first | ((with_reducible refine gate_callee (f := 30) rfl ?_); refine goesL_ (some 8) rfl rfl Tryd.func30 (by kernel_rfl) rfl #[.int .i64 (a0.size : Int), .int .i64 1, .int .i64 40] rfl (by (try simp only [List.map_toArray, List.map_cons, List.map_nil]); first | done | rfl) ?_; (with_reducible refine (spec_l1In.calls (a0.size : Int) 1 40 true _ A1).mono ?_); rintro e w6 ⟨rfl, ⟨n6, rfl⟩⟩; refine ⟨_, rfl, ?_⟩))
    go_loopg [4] k (fun kq v4 w' => ∃ (g : Int) (p : Nat), v4 = .int .i64 g ∧ Aside0 (spec_RankOfText.l0 kq a0 g p = some (r1, r2)) ∧ Aside0 (kq ≤ k) ∧ Aside0 (Below w.heap.size w w') ∧ w'.heap[w.heap.size]? = some (.stringIter a0 p))
    case atStart => exact ⟨0, 0, rfl, H', ⟨Nat.le_refl _⟩, ⟨(pw_below_drewN (Below.refl _ w) _).alloc (Nat.le_refl _) _⟩, World.iter_heap (w.drewN n6) a0 0⟩
    case round =>
      clear H'
      obtain ⟨g, p, rfl, HA, HK, HB, hit⟩ := hrel
      have hsz : w.heap.size < wr.heap.size := (Array.getElem?_eq_some_iff.1 hit).1
      have hszd : (w.drewN n6).heap.size = w.heap.size := rfl
      cases gk with
      | zero => exact absurd HA.out (by simp [spec_RankOfText.l0])
      | succ k1 =>
        have H := HA.out
        clear HA
        rw [spec_RankOfText.l0] at H
        by_cases hp : p < a0.size
        · rw [dif_pos hp] at H
          have p5 : (0 ≤ (p : Int)) = True := eq_true (by omega)
          have q5 : ((p : Int) < (a0.size : Int)) = True := eq_true (by omega)
          have hx5 := bt_at a0 (p : Int)
          have hA : ((a0[p]'hp).toNat : Int) = bt a0 (p : Int) := by have := hx5 (by simpa using hp); simpa using this
          by_cases hc : (a0[p]'hp).toNat = 48 ∨ (a0[p]'hp).toNat = 49
          · rw [if_pos hc] at H
            have hnx : ∀ ty, (Instr.next (.pointer (some ⟨w.heap.size, 0, none⟩)) true ty).run Tryd.prog wr = _ := fun ty => Lib.run_next_ascii_at wr w.heap.size a0 p ty hit hp (by omega)
            have hit2 := Lib.iterAt_heap wr w.heap.size a0 p (p + 1) hit
            have HB2 := Lib.below_iterAt HB.out (Nat.le_refl w.heap.size) a0 (p + 1)
            clear HB hit
            generalize wr.iterAt w.heap.size a0 (p + 1) = W2 at *
            have hd1 := hA
            rcases hc with hc | hc
            · skip
              have he2 : (bt a0 (p : Int) != 48) = false := by rw [← hA, hc]; rfl
              have he4 : (bt a0 (p : Int) == 48) = true := by rw [← hA, hc]; rfl
              clear hc hd1
              go_wp2
              repeat (go_quiet (fail); try go_wp2)
              go_roundg k1
              case measure => have := HK.out; omega
              case rel => exact ⟨_, p + 1, (by first | rfl | (simp; done) | (simp [*]; done)), ⟨H⟩, ⟨by have := HK.out; omega⟩, ⟨by repeat (first | exact HB2 | apply pw_below_drewN | apply below_drew1)⟩, hit2⟩
            · skip
              have he2 : (bt a0 (p : Int) != 48) = true := by rw [← hA, hc]; rfl
              have he3 : (bt a0 (p : Int) != 49) = false := by rw [← hA, hc]; rfl
              clear hc hd1
              go_wp2
              repeat (go_quiet (fail); try go_wp2)
              go_roundg k1
              case measure => have := HK.out; omega
              case rel => exact ⟨_, p + 1, (by first | rfl | (simp; done) | (simp [*]; done)), ⟨H⟩, ⟨by have := HK.out; omega⟩, ⟨by repeat (first | exact HB2 | apply pw_below_drewN | apply below_drew1)⟩, hit2⟩
          · rw [if_neg hc] at H
            simp only [Option.some.injEq, Prod.mk.injEq] at H
            obtain ⟨rfl, rfl⟩ := H
            have hnx : ∀ ty, (Instr.next (.pointer (some ⟨w.heap.size, 0, none⟩)) true ty).run Tryd.prog wr = _ := fun ty => Lib.run_next_any_at wr w.heap.size a0 p ty hit hp
            have HB2 := Lib.below_iterAt HB.out (Nat.le_refl w.heap.size) a0 (p + (Utf8.decode a0 p).2)
            clear HB hit
            generalize wr.iterAt w.heap.size a0 (p + (Utf8.decode a0 p).2) = W2 at *
            have he2 : (bt a0 (p : Int) != 48) = true := bne_iff_ne.mpr (by omega)
            have he3 : (bt a0 (p : Int) != 49) = true := bne_iff_ne.mpr (by omega)
            go_wp2
            repeat (go_quiet (fail); try go_wp2)
            go_ret2
            exact ⟨rfl, by repeat (first | exact HB2 | apply pw_below_drewN | apply below_drew1)⟩
        · rw [dif_neg hp] at H
          have hnx : ∀ ty, (Instr.next (.pointer (some ⟨w.heap.size, 0, none⟩)) true ty).run Tryd.prog wr = _ := fun ty => Lib.run_next_end_at wr w.heap.size a0 p ty hit hp
          obtain ⟨t, A2, H⟩ := Option.bind_eq_some_iff.mp H
          simp only [Option.some.injEq, Prod.mk.injEq] at H
          obtain ⟨rfl, rfl⟩ := H
          go_wp2_with (first | ((with_reducible refine gate_callee (f := 22) rfl ?_); refine goesL_ (some 34) rfl rfl Tryd.func22 (by kernel_rfl) rfl #[.int .i64 g] rfl (by (try simp only [List.map_toArray, List.map_cons, List.map_nil]); first | done | rfl) ?_; (with_reducible refine (spec_nuBack.calls k1 g t _ A2).mono ?_); rintro e w6 ⟨rfl, ⟨n7, rfl⟩⟩; refine ⟨_, rfl, ?_⟩))
          go_ret2
          exact ⟨rfl, by repeat (first | exact HB.out | apply pw_below_drewN | apply below_drew1)⟩

end Go.Proofs.YtcejcobbfpbpoaaDoor.A
