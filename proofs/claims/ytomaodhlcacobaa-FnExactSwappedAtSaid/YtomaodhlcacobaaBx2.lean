-- written by a program of this session's over the kit's print (xp.py)
import Derived.Test.YtomaodhlcacobaaBx0
import Derived.Test.YtomaodhlcacobaaBx1
namespace Go.Proofs.Ytomaodhlcacobaa.B
open Go.RowKit Go.Proofs.YtomaodhlcacobaaW.PrintWords Go.Proofs.YtomaodhlcacobaaW.PrintLast Go.Proofs.YtomaodhlcacobaaW.PrintMore
attribute [local go_sem] max2_int min2_int max_two min_two max_three min_three max_four min_four   -- for this text's walks alone
set_option linter.unusedVariables false
set_option linter.unusedSimpArgs false

/-! ### slices_Reverse_int_int: function 66 -/
def slices_Reverse_int_int.l0 : Nat → List Int → Int → Int → Option (List Int)
 | 0, _, _, _ => none
 | k + 1, x0, x2, x3 => if x2 < x3 then (if 0 ≤ x3 then (if x3 < (x0.length : Int) then (if 0 ≤ x2 then (if x2 < (x0.length : Int) then (slices_Reverse_int_int.l0 k ((x0.set (x2 : Int).toNat (rd x0 x3)).set (x3 : Int).toNat (rd x0 x2)) (wrap64 (x2 + 1)) (wrap64 (x3 - 1))) else (none)) else (none)) else (none)) else (none)) else (some x0)
def slices_Reverse_int_int.f (k : Nat) (l0 : List Int) : Option (List Int) := slices_Reverse_int_int.l0 k l0 0 (wrap64 ((l0.length : Int) - 1))
theorem slices_Reverse_int_int.mono_l : ∀ k, (∀ y0 y1 y2, LeO (slices_Reverse_int_int.l0 k y0 y1 y2) (slices_Reverse_int_int.l0 (k + 1) y0 y1 y2))
 | 0 => fun _ _ _ r h => by simp [slices_Reverse_int_int.l0] at h
 | k + 1 => by
  have ih0 := slices_Reverse_int_int.mono_l k
  ·intro y0 y1 y2
   unfold slices_Reverse_int_int.l0
   repeat' first
   | (with_reducible exact ih0 _ _ _)
   | (with_reducible exact LeO.refl _)
   | (with_reducible exact LeO.none _)
   | (with_reducible refine LeO.ite ?_ ?_)
   | (with_reducible refine LeO.bind ?_ (fun _ => ?_))
   | exact ih0 _ _ _
   | exact LeO.none _
   | refine LeO.ite ?_ ?_
   | refine LeO.bind ?_ (fun _ => ?_)
theorem slices_Reverse_int_int.mono : ∀ a0 k, LeO (slices_Reverse_int_int.f k a0) (slices_Reverse_int_int.f (k + 1) a0) := by
 intro a0 k
 have ih0 := slices_Reverse_int_int.mono_l k
 unfold slices_Reverse_int_int.f
 repeat' first
   | (with_reducible exact ih0 _ _ _)
   | (with_reducible exact LeO.refl _)
   | (with_reducible exact LeO.none _)
   | (with_reducible refine LeO.ite ?_ ?_)
   | (with_reducible refine LeO.bind ?_ (fun _ => ?_))
   | exact ih0 _ _ _
   | exact LeO.none _
   | refine LeO.ite ?_ ?_
   | refine LeO.bind ?_ (fun _ => ?_)
def slices_Reverse_int_int.T3 : Bool × List (List Nat × List Nat) := (true, [([], []), ([], []), ([], []), ([], []), ([], []), ([], []), ([4, 5], [4, 5]), ([6], [6]), ([], []), ([], []), ([8, 9], [8, 9]), ([10], [10]), ([0, 1, 0, 1, 4, 5, 6, 7, 11], [0, 1]), ([12, 7, 0, 1, 4, 5, 6, 7, 11], [7, 12]), ([2, 3, 0, 1, 2, 3, 4, 5, 6, 7, 8, 9, 10, 11, 12, 13], [2, 3]), ([14, 11, 13, 0, 1, 2, 3, 4, 5, 6, 7, 8, 9, 10, 11, 12, 13], [11, 14])])
def slices_Reverse_int_int.B3 : List Nat := [0, 0, 0, 0, 0, 0, 48, 112, 0, 0, 768, 1792, 4083, 8179, 16383, 32767]
theorem slices_Reverse_int_int.tab3 : rtab .any (opsOf Try.f66 3) = slices_Reverse_int_int.T3 := by kernel_rfl
theorem slices_Reverse_int_int.bits3 : waitsOk slices_Reverse_int_int.T3.2 slices_Reverse_int_int.B3 = true := by kernel_rfl
set_option maxHeartbeats 8000000 in
set_option maxRecDepth 100000 in
theorem slices_Reverse_int_int.calls (k : Nat) (P0_ : Nat → Prop) (u9000_ : Value) (l0 : List Int) (r : List Int) (w0 w : World) (hB : Below w0.heap.size w0 w) (ho0 : Kd.R (Kd.int .i64) 3 w w0.heap.size P0_ u9000_ l0) (h : slices_Reverse_int_int.f k l0 = some r) :
  Calls Try.prog 66 #[u9000_] w fun e w' => e = .returned (.tuple #[]) ∧ Kd.R (Kd.int .i64) 3 w' w0.heap.size (fun k_ => (P0_ k_ ∨ w.heap.size ≤ k_)) u9000_ r ∧ Below w0.heap.size w0 w' ∧ Kept w w' (fun k_ => P0_ k_) := by
 have HO0 := Aside0.mk (show Kd.R (Kd.int .i64) 3 w w0.heap.size (fun k_ => (P0_ k_ ∨ w.heap.size ≤ k_)) u9000_ l0 from Kd.R_mono ho0 (fun k_ hk => (.inl hk)))
 have HK := Aside0.mk (Kept.refl w (fun k_ => P0_ k_))
 have HW0 := Aside0.mk hB.size
 have HB := Aside0.mk hB
 clear hB
 have H : (slices_Reverse_int_int.l0 k l0 0 (wrap64 ((l0.length : Int) - 1))) = some r := h
 clear h
 have H' := Aside0.mk H
 clear H
 obtain ⟨Ao2, co2, eo2⟩ := Kd.R_slice HO0.out
 subst eo2
 go_enter Try.func66, Try.ntmps66
 go_wp2
 go_loopg [2, 3] k (fun kq v2 v3 w' => ∃ (x0_1 : List Int) (x2_1 : Int) (x3_1 : Int), v2 = .int .i64 x2_1 ∧ v3 = .int .i64 x3_1 ∧ Aside0 (slices_Reverse_int_int.l0 kq x0_1 x2_1 x3_1 = some r) ∧ Aside0 (kq ≤ k) ∧ Aside0 (Kd.R (Kd.int .i64) 3 w' w0.heap.size (fun k_ => (P0_ k_ ∨ w.heap.size ≤ k_)) (.slice Ao2 l0.length co2) x0_1) ∧ Aside0 (Kept w w' (fun k_ => P0_ k_)) ∧ Aside0 (Below w0.heap.size w0 w'))
 case atStart => exact ⟨(l0), (0), (wrap64 ((l0.length : Int) - 1)), (by first | rfl | (simp; done) | (simp [*]; done)), (by first | rfl | (simp; done) | (simp [*]; done)), H', ⟨Nat.le_refl _⟩, ⟨by (with_reducible repeat (first | apply Kd.R_alloc | apply Kd.R_drewN | apply Kd.R_drew)); exact HO0.out⟩, ⟨by repeat (first | (with_reducible first | exact HK.out | apply Kept.alloc | apply Kept.drewN | apply Kept.drew) | exact HK.out)⟩, ⟨by repeat (first | (with_reducible first | exact HB.out | apply below_alloc | apply pw_below_drewN | apply below_drew1) | exact HB.out)⟩⟩
 case round =>
  clear H'
  try clear p2
  obtain ⟨x0_1, x2_1, x3_1, rfl, rfl, HA, HK1, HO_0, HK, HB⟩ := hrel
  have hl0_1 := (Kd.R_reads' HO_0.out).1
  rw [hl0_1] at HO_0
  (try simp only [hl0_1])
  cases gk with
  | zero => exact absurd HA.out (by simp [slices_Reverse_int_int.l0])
  | succ k1 =>
   have H := HA.out
   clear HA
   simp only [slices_Reverse_int_int.l0] at H
   by_cases c3 : x2_1 < x3_1
   ·rw [if_pos c3] at H
    have c3b0 : decide (x2_1 < x3_1) = true := decide_eq_true c3
    clear c3
    by_cases c4 : 0 ≤ x3_1
    ·rw [if_pos c4] at H
     have c4b0 : decide (0 ≤ x3_1) = true := decide_eq_true c4
     clear c4
     by_cases c5 : x3_1 < (x0_1.length : Int)
     ·rw [if_pos c5] at H
      have c5b0 : decide (x3_1 < (x0_1.length : Int)) = true := decide_eq_true c5
      clear c5
      by_cases c6 : 0 ≤ x2_1
      ·rw [if_pos c6] at H
       have c6b0 : decide (0 ≤ x2_1) = true := decide_eq_true c6
       clear c6
       by_cases c7 : x2_1 < (x0_1.length : Int)
       ·rw [if_pos c7] at H
        have c7b0 : decide (x2_1 < (x0_1.length : Int)) = true := decide_eq_true c7
        clear c7
        obtain ⟨y123, hy123⟩ : ∃ y_ : List Int, y_ = (x0_1.set (x2_1 : Int).toNat (rd x0_1 x3_1)) := ⟨_, rfl⟩
        replace H : (slices_Reverse_int_int.l0 k1 (y123.set (x3_1 : Int).toNat (rd x0_1 x2_1)) (wrap64 (x2_1 + 1)) (wrap64 (x3_1 - 1))) = some r := by first | (rw [hy123]; with_reducible exact H) | (have H2_ := (Option.bind_some _ _).symm.trans H; rw [hy123]; with_reducible exact H2_) | (have H2_ := (Option.bind_some _ _).symm.trans H; with_reducible exact H2_) | with_reducible exact H | (rw [hy123]; exact H) | exact H
        have Ny123 := Aside0.mk hy123
        clear hy123
        obtain ⟨y124, hy124⟩ : ∃ y_ : List Int, y_ = (y123.set (x3_1 : Int).toNat (rd x0_1 x2_1)) := ⟨_, rfl⟩
        replace H : (slices_Reverse_int_int.l0 k1 y124 (wrap64 (x2_1 + 1)) (wrap64 (x3_1 - 1))) = some r := by first | (rw [hy124]; with_reducible exact H) | (have H2_ := (Option.bind_some _ _).symm.trans H; rw [hy124]; with_reducible exact H2_) | (have H2_ := (Option.bind_some _ _).symm.trans H; with_reducible exact H2_) | with_reducible exact H | (rw [hy124]; exact H) | exact H
        have Ny124 := Aside0.mk hy124
        clear hy124
        have H' := Aside0.mk H
        clear H
        try go_wp2
        have n0_ := Aside0.mk (Kd.R_drew HO_0.out)
        have n1_ := Aside0.mk (Kept.drew HK.out)
        have n2_ := Aside0.mk (below_drew1 HB.out)
        clear HO_0
        clear HK
        clear HB
        have HO_0 := n0_
        have HK := n1_
        have HB := n2_
        clear n0_ n1_ n2_
        have p121 : 0 ≤ (x3_1 : Int) := of_decide_eq_true (by first | (with_reducible assumption) | assumption)
        have q121 : x3_1 < (x0_1.length : Int) := of_decide_eq_true (by first | (with_reducible assumption) | assumption)
        obtain ⟨ad121, e121, hx121_0⟩ := Kd.at_int (Kd.R_reads' HO_0.out).2.2 x3_1 p121 q121
        cases e121
        replace p121 := eq_true p121
        replace q121 := eq_true q121
        have p122 : 0 ≤ (x2_1 : Int) := of_decide_eq_true (by first | (with_reducible assumption) | assumption)
        have q122 : x2_1 < (x0_1.length : Int) := of_decide_eq_true (by first | (with_reducible assumption) | assumption)
        obtain ⟨ad122, e122, hx122_0⟩ := Kd.at_int (Kd.R_reads' HO_0.out).2.2 x2_1 p122 q122
        obtain rfl : ad121 = ad122 := (by injection e122)
        replace p122 := eq_true p122
        replace q122 := eq_true q122
        have p8 : 0 ≤ (x2_1 : Int) := of_decide_eq_true (by first | (with_reducible assumption) | assumption)
        have q8 : (x2_1 : Int) < ((x0_1.length : Int) : Int) := of_decide_eq_true (by first | (with_reducible assumption) | assumption)
        obtain ⟨go8, co8, eo8, gb8, gl8, cl8, HG8⟩ := Kd.R_form HO_0.out (by omega)
        (first | cases eo8 | (injection eo8 with ea_ en_ ec_; (first | subst ea_ | (injection ea_ with ea_; subst ea_)); subst ec_; clear en_))
        have GB8 := Aside0.mk gb8
        have GG8 := Aside0.mk HG8
        clear gb8 gl8 HG8
        have HMgo8 := Aside0.mk (show (P0_ go8 ∨ w.heap.size ≤ go8) from (HO_0.out.1 _ rfl))
        (first | simp only [add_plain] at hx121_0 | skip)
        (first | simp only [add_plain] at hx122_0 | skip)
        obtain ⟨hx8_0, hf8_0⟩ := Kd.R_celln 0 HO_0.out (x2_1 : Int) p8 q8
        replace p8 := eq_true p8
        replace q8 := eq_true q8
        have HP11 := Kd.R_putn HO_0.out (x2_1 : Int) (rd x0_1 x3_1)
        rw [← Ny123.out] at HP11
        have HQ11 := Aside0.mk HP11
        clear HP11
        have p9 : 0 ≤ (x3_1 : Int) := of_decide_eq_true (by first | (with_reducible assumption) | assumption)
        have q9 : (x3_1 : Int) < ((x0_1.length : Int) : Int) := of_decide_eq_true (by first | (with_reducible assumption) | assumption)
        obtain ⟨hx9_0, hf9_0⟩ := Kd.R_celln 0 HQ11.out (x3_1 : Int) p9 q9
        replace p9 := eq_true p9
        replace q9 := eq_true q9
        have HP12 := Kd.R_putn HQ11.out (x3_1 : Int) (rd x0_1 x2_1)
        rw [← Ny124.out] at HP12
        have HQ12 := Aside0.mk HP12
        clear HP12
        refine start_ (n := 16) (S := fun w' => w'.cell? ⟨go8, (x3_1).toNat, none⟩ = some (.int .i64 (rd x0_1 x3_1)) ∧ w'.cell? ⟨go8, (x2_1).toNat, none⟩ = some (.int .i64 (rd x0_1 x2_1))) (ds := [13, 15]) #[false, false, false, false, false, false, false, false, false, false, false, false, false, false, false, false] (by kernel_rfl) rfl rfl ⟨hx121_0, hx122_0⟩ (fun hHeld => ?_); refine with_tabW slices_Reverse_int_int.tab3 slices_Reverse_int_int.bits3 (fun HT_ HW_ => ?_)
        generalize wr.drew = w10 at HO_0 HK HB GG8 HQ11 HQ12 hf8_0 hf9_0 hx121_0 hx122_0 hx8_0 hx9_0 hHeld ⊢
        refine pure_ (i := 0) (N := some 14) (v := ?_) (a' := ?_) #[true, false, false, false, false, false, false, false, false, false, false, false, false, false, false, false] rfl rfl (any_of HT_.out (by kernel_rfl)) (fun _ _ _ h => h) (Or.inl ⟨by rfl, ?_⟩) ?_ ?_
        rotate_left
        ·intro w'
         go_simp
         with_reducible rfl
        rotate_left
        ·simp only [Act.put, List.setIfInBounds_toArray, List.set_cons_zero, List.set_cons_succ, i64_w, i32_w]
         rfl
        refine pure_ (i := 1) (N := some 15) (v := ?_) (a' := ?_) #[true, true, false, false, false, false, false, false, false, false, false, false, false, false, false, false] rfl rfl (any_of HT_.out (by kernel_rfl)) (fun _ _ _ h => h) (Or.inl ⟨by rfl, ?_⟩) ?_ ?_
        rotate_left
        ·intro w'
         go_simp
         with_reducible rfl
        rotate_left
        ·simp only [Act.put, List.setIfInBounds_toArray, List.set_cons_zero, List.set_cons_succ, i64_w, i32_w]
         rfl
        refine pure_ (i := 2) (N := some 16) (v := ?_) (a' := ?_) #[true, true, true, false, false, false, false, false, false, false, false, false, false, false, false, false] rfl rfl (any_of HT_.out (by kernel_rfl)) (fun _ _ _ h => h) (Or.inl ⟨by rfl, ?_⟩) ?_ ?_
        rotate_left
        ·intro w'
         go_simp
         with_reducible rfl
        rotate_left
        ·simp only [Act.put, List.setIfInBounds_toArray, List.set_cons_zero, List.set_cons_succ, i64_w, i32_w]
         rfl
        refine pure_ (i := 3) (N := some 17) (v := ?_) (a' := ?_) #[true, true, true, true, false, false, false, false, false, false, false, false, false, false, false, false] rfl rfl (any_of HT_.out (by kernel_rfl)) (fun _ _ _ h => h) (Or.inl ⟨by rfl, ?_⟩) ?_ ?_
        rotate_left
        ·intro w'
         go_simp
         with_reducible rfl
        rotate_left
        ·simp only [Act.put, List.setIfInBounds_toArray, List.set_cons_zero, List.set_cons_succ, i64_w, i32_w]
         rfl
        refine pure_ (i := 4) (N := some 18) (v := ?_) (a' := ?_) #[true, true, true, true, true, false, false, false, false, false, false, false, false, false, false, false] rfl rfl (any_of HT_.out (by kernel_rfl)) (fun _ _ _ h => h) (Or.inl ⟨by rfl, ?_⟩) ?_ ?_
        rotate_left
        ·intro w'
         go_simp
         with_reducible rfl
        rotate_left
        ·simp only [Act.put, List.setIfInBounds_toArray, List.set_cons_zero, List.set_cons_succ, i64_w, i32_w]
         rfl
        refine pure_ (i := 5) (N := some 19) (v := ?_) (a' := ?_) #[true, true, true, true, true, true, false, false, false, false, false, false, false, false, false, false] rfl rfl (any_of HT_.out (by kernel_rfl)) (fun _ _ _ h => h) (Or.inl ⟨by rfl, ?_⟩) ?_ ?_
        rotate_left
        ·intro w'
         go_simp
         with_reducible rfl
        rotate_left
        ·simp only [Act.put, List.setIfInBounds_toArray, List.set_cons_zero, List.set_cons_succ, i64_w, i32_w]
         rfl
        refine pure_ (i := 6) (N := some 20) (v := ?_) (a' := ?_) #[true, true, true, true, true, true, true, false, false, false, false, false, false, false, false, false] rfl rfl (any_of HT_.out (by kernel_rfl)) (fun _ _ _ h => h) (Or.inl ⟨by rfl, ?_⟩) ?_ ?_
        rotate_left
        ·intro w'
         go_simp
         with_reducible rfl
        rotate_left
        ·simp only [Act.put, List.setIfInBounds_toArray, List.set_cons_zero, List.set_cons_succ, i64_w, i32_w]
         rfl
        refine pure_ (i := 8) (N := some 22) (v := ?_) (a' := ?_) #[true, true, true, true, true, true, true, false, true, false, false, false, false, false, false, false] rfl rfl (any_of HT_.out (by kernel_rfl)) (fun _ _ _ h => h) (Or.inl ⟨by rfl, ?_⟩) ?_ ?_
        rotate_left
        ·intro w'
         go_simp
         with_reducible rfl
        rotate_left
        ·simp only [Act.put, List.setIfInBounds_toArray, List.set_cons_zero, List.set_cons_succ, i64_w, i32_w]
         rfl
        refine pure_ (i := 9) (N := some 23) (v := ?_) (a' := ?_) #[true, true, true, true, true, true, true, false, true, true, false, false, false, false, false, false] rfl rfl (any_of HT_.out (by kernel_rfl)) (fun _ _ _ h => h) (Or.inl ⟨by rfl, ?_⟩) ?_ ?_
        rotate_left
        ·intro w'
         go_simp
         with_reducible rfl
        rotate_left
        ·simp only [Act.put, List.setIfInBounds_toArray, List.set_cons_zero, List.set_cons_succ, i64_w, i32_w]
         rfl
        refine pure_ (i := 10) (N := some 24) (v := ?_) (a' := ?_) #[true, true, true, true, true, true, true, false, true, true, true, false, false, false, false, false] rfl rfl (any_of HT_.out (by kernel_rfl)) (fun _ _ _ h => h) (Or.inl ⟨by rfl, ?_⟩) ?_ ?_
        rotate_left
        ·intro w'
         go_simp
         with_reducible rfl
        rotate_left
        ·simp only [Act.put, List.setIfInBounds_toArray, List.set_cons_zero, List.set_cons_succ, i64_w, i32_w]
         rfl
        refine take_ (i := 7) (N := some 21) (v := ?_) (a' := ?_) #[true, true, true, true, true, true, true, true, true, true, true, false, false, false, false, false] rfl rfl (take_ofW HT_.out HW_.out (by kernel_rfl)) (fun _ _ _ h => h) (Or.inl ⟨by rfl, ?_⟩) hHeld ?_ ?_
        rotate_left
        ·rintro w' ⟨s0, s1⟩
         go_simp
         with_reducible rfl
        rotate_left
        ·simp only [Act.put, List.setIfInBounds_toArray, List.set_cons_zero, List.set_cons_succ, i64_w, i32_w]
         rfl
        refine take_ (i := 11) (N := some 25) (v := ?_) (a' := ?_) #[true, true, true, true, true, true, true, true, true, true, true, true, false, false, false, false] rfl rfl (take_ofW HT_.out HW_.out (by kernel_rfl)) (fun _ _ _ h => h) (Or.inl ⟨by rfl, ?_⟩) hHeld ?_ ?_
        rotate_left
        ·rintro w' ⟨s0, s1⟩
         go_simp
         with_reducible rfl
        rotate_left
        ·simp only [Act.put, List.setIfInBounds_toArray, List.set_cons_zero, List.set_cons_succ, i64_w, i32_w]
         rfl
        refine pure_ (i := 12) (N := some 26) (v := ?_) (a' := ?_) #[true, true, true, true, true, true, true, true, true, true, true, true, true, false, false, false] rfl rfl (any_of HT_.out (by kernel_rfl)) (fun _ _ _ h => h) (Or.inl ⟨by rfl, ?_⟩) ?_ ?_
        rotate_left
        ·intro w'
         go_simp
         with_reducible rfl
        rotate_left
        ·simp only [Act.put, List.setIfInBounds_toArray, List.set_cons_zero, List.set_cons_succ, i64_w, i32_w]
         rfl
        refine last_ (i := 13) (N := none) #[true, true, true, true, true, true, true, true, true, true, true, true, true, true, false, false] rfl rfl (one_of HT_.out (by kernel_rfl)) (by decide) (fun K hK => ?_)
        refine skip_ (w1 := ?_) (by rfl) rfl ?_ ?_
        rotate_left
        ·go_simp
         rfl
        refine hK.out _ _ ?_
        clear hK K
        refine pure_ (i := 14) (N := some 27) (v := ?_) (a' := ?_) #[true, true, true, true, true, true, true, true, true, true, true, true, true, true, true, false] rfl rfl (any_of HT_.out (by kernel_rfl)) (fun _ _ _ h => h) (Or.inl ⟨by rfl, ?_⟩) ?_ ?_
        rotate_left
        ·intro w'
         go_simp
         with_reducible rfl
        rotate_left
        ·simp only [Act.put, List.setIfInBounds_toArray, List.set_cons_zero, List.set_cons_succ, i64_w, i32_w]
         rfl
        refine last_ (i := 15) (N := none) #[true, true, true, true, true, true, true, true, true, true, true, true, true, true, true, true] rfl rfl (one_of HT_.out (by kernel_rfl)) (by decide) (fun K hK => ?_)
        refine skip_ (w1 := ?_) (by rfl) rfl ?_ ?_
        rotate_left
        ·go_simp
         rfl
        refine hK.out _ _ ?_
        clear hK K
        refine done_ (done_of HT_.out (by kernel_rfl)) ?_
        try go_wp2
        (try simp only [← hl0_1])
        go_roundg k1
        case measure => have := HK1.out; omega
        case rel => exact ⟨(y124), (wrap64 (x2_1 + 1)), (wrap64 (x3_1 - 1)), (by first | rfl | (simp; done) | (simp [*]; done)), (by first | rfl | (simp; done) | (simp [*]; done)), H', ⟨by have := HK1.out; omega⟩, ⟨by (try simp only [hl0_1]); (with_reducible repeat (first | apply Kd.R_alloc | apply Kd.R_drewN | apply Kd.R_drew)); exact HQ12.out⟩, ⟨by repeat (first | (with_reducible first | exact HK.out | apply Kept.alloc | apply Kept.drewN | apply Kept.drew | refine Kept.setCell ?_ HMgo8.out _ | refine Kept.setCell ?_ HMgo8.out _) | exact HK.out)⟩, ⟨by repeat (first | (with_reducible first | exact HB.out | apply below_alloc | apply pw_below_drewN | apply below_drew1 | refine below_set ?_ GB8.out | refine below_set ?_ GB8.out) | exact HB.out)⟩⟩
       ·rw [if_neg c7] at H
        exact absurd H (by simp)
      ·rw [if_neg c6] at H
       exact absurd H (by simp)
     ·rw [if_neg c5] at H
      exact absurd H (by simp)
    ·rw [if_neg c4] at H
     exact absurd H (by simp)
   ·rw [if_neg c3] at H
    have c3b0 : decide (x2_1 < x3_1) = false := decide_eq_false c3
    clear c3
    obtain rfl := Option.some.inj H
    go_wp2
    first | go_end0 | ((try simp only [Exit.inBlock, Exit.then]); refine bodyPost_ret (results_none rfl _ _ _) rfl ?_)
    exact ⟨by first | rfl | (simp [errW_none, errW_some] <;> rfl) | (simp [*, errW_none, errW_some] <;> rfl), (by first | exact (by (with_reducible repeat (first | apply Kd.R_alloc | apply Kd.R_drewN | apply Kd.R_drew)); exact HO_0.out) | (simp only [hl0_1]; exact (by (with_reducible repeat (first | apply Kd.R_alloc | apply Kd.R_drewN | apply Kd.R_drew)); exact HO_0.out))), by repeat (first | (with_reducible first | exact HB.out | apply below_alloc | apply pw_below_drewN | apply below_drew1) | exact HB.out), by repeat (first | (with_reducible first | exact HK.out | apply Kept.alloc | apply Kept.drewN | apply Kept.drew) | exact HK.out)⟩

-- NOT PRINTED: function 88 (slices_rotateLeft_int)

-- NOT PRINTED: function 87 (slices_rotateRight_int)

-- NOT PRINTED: function 84 (slices_Insert_int_int)

/-! ### impl_swapped: slices.Insert at an own row -/
theorem ins_room {α : Type} (c e : List α) (n p : Nat) (x : α) (h : c.take n = e) (he : e.length = n) (hp : p ≤ n) (hc : n + 1 ≤ c.length) :
  ((c.take (p + 1) ++ e.drop p ++ c.drop (p + 1 + (e.drop p).length)).take p ++ [x] ++ (c.take (p + 1) ++ e.drop p ++ c.drop (p + 1 + (e.drop p).length)).drop (p + 1)).take (n + 1) = e.take p ++ ([x] ++ e.drop p) := by
 have h1 : (c.take (p + 1)).length = p + 1 := by rw [List.length_take]; omega
 have h2 : (c.take (p + 1) ++ e.drop p ++ c.drop (p + 1 + (e.drop p).length)).take p = e.take p := by
  rw [List.append_assoc, List.take_append_of_le_length (by omega), List.take_take, Nat.min_eq_left (by omega), ← h, List.take_take, Nat.min_eq_left hp]
 have h3 : (c.take (p + 1) ++ e.drop p ++ c.drop (p + 1 + (e.drop p).length)).drop (p + 1) = e.drop p ++ c.drop (p + 1 + (e.drop p).length) := by
  rw [List.append_assoc]; exact List.drop_left' h1
 rw [h2, h3, List.append_assoc, ← List.append_assoc [x], ← List.append_assoc (e.take p)]
 exact List.take_left' (by simp; omega)
theorem ins_grow {α : Type} (a e : List α) (n p : Nat) (x : α) (h : a.take p = e.take p) (he : e.length = n) (hp : p ≤ n) (hc : n + 1 ≤ a.length) :
  ((a.take p ++ [x] ++ a.drop (p + 1)).take (p + 1) ++ e.drop p ++ (a.take p ++ [x] ++ a.drop (p + 1)).drop (p + 1 + (e.drop p).length)).take (n + 1) = e.take p ++ ([x] ++ e.drop p) := by
 have h1 : (a.take p ++ [x]).length = p + 1 := by rw [List.length_append, List.length_take, List.length_singleton]; omega
 have h2 : (a.take p ++ [x] ++ a.drop (p + 1)).take (p + 1) = a.take p ++ [x] := List.take_left' h1
 rw [h2, h, List.append_assoc (e.take p)]
 exact List.take_left' (by simp; omega)
theorem R_new {W : World} {base g cap : Nat} {cells : Array Value} {ys : List Int} (hg : W.heap[g]? = some (.cells cells 3 (0, 0))) (hb : base ≤ g) (hn : ys.length ≤ cap) (hm : cap ≤ maxLen) (hs : cells.size = cap) (ht : cells.toList.take ys.length = encs (Value.int .i64) ys) :
  Kd.R (Kd.int .i64) 3 W base (fun _ => True) (.slice (some ⟨g, 0, none⟩) ys.length cap) ys :=
 Kd.R_of_own ⟨by rw [encs_length, Nat.mul_one], .inr ⟨g, cap, cells, rfl, hb, hg, hn, hm, by rw [Nat.mul_one]; exact hs, by rw [Nat.mul_one]; exact ht⟩⟩ (fun _ _ => trivial)
theorem setCells_grown (W : World) (g o : Nat) (vs : List Value) : W.grownBy (W.setCells g o vs) (some g) := by
 obtain ⟨s1, s2, s3, s4⟩ := setCells_same g vs o W
 exact ⟨s1, s2, s3, by rw [s4]; exact Nat.le_refl _, fun k _ hk => setCells_far _ _ k (fun he => hk (by rw [he]))⟩
set_option maxHeartbeats 8000000 in
set_option maxRecDepth 100000 in
theorem insert_world (W : World) (base : Nat) (v : Value) (l : List Int) (p : Nat) (x : Int) (g2 : Nat) (hp : p ≤ l.length) (hl : l.length < 17592186044000) (hR : Kd.R (Kd.int .i64) 3 W base (fun _ => True) v l) (hb : base ≤ W.heap.size)
  (hlit : W.heap[g2]? = some (.cells #[.int .i64 x] 3 (0, 0))) (hne : v.ownBlock ≠ some g2) :
  Calls Try.prog 84 #[v, .int .i64 (p : Int), .slice (some ⟨g2, 0, none⟩) 1 1] W fun e w' => ∃ v', e = .returned v' ∧ Kd.R (Kd.int .i64) 3 w' base (fun _ => True) v' (l.take p ++ ([x] ++ l.drop p)) ∧ W.grownBy w' v.ownBlock := by
 have hown := Kd.own_of_R hR
 have hel : (encs (Value.int .i64) l).length = l.length := encs_length _
 have hlc : W.cell? ⟨g2, 0, none⟩ = some (.int .i64 x) := by rw [cell_of_row W g2 0 _ 3 (0, 0) hlit]; rfl
 have hvs : ∀ j v, [Value.int .i64 x][j]? = some v → W.cell? ⟨g2, 0 + j, none⟩ = some v := by
  intro j v hj
  match j, hj with
  | 0, hj => obtain rfl := Option.some.inj hj; exact hlc
  | j + 1, hj => simp at hj
 have h1v : ∀ v ∈ [Value.int .i64 x], v.oneCell' = true := by
  intro v hv
  rw [List.mem_singleton] at hv
  subst hv; rfl
 have h1c : ∀ v ∈ encs (Value.int .i64) l, v.oneCell' = true := by
  intro v hv
  simp only [encs, List.mem_map] at hv
  obtain ⟨q, _, rfl⟩ := hv; rfl
 have hyl : (l.take p ++ ([x] ++ l.drop p)).length = l.length + 1 := by simp; omega
 have hye : encs (Value.int .i64) (l.take p ++ ([x] ++ l.drop p)) = (encs (Value.int .i64) l).take p ++ ([Value.int .i64 x] ++ (encs (Value.int .i64) l).drop p) := by
  simp [encs, List.map_take, List.map_drop]
 have hgc := fun old => grownCap_ge W (l.length + 1) old 3
 have hgm := fun old => grownCap_le_maxLen W (l.length + 1) old 3 (by simp only [maxLen]; omega)
 rcases hown.2 with ⟨rfl, hn⟩ | ⟨g, cap, cur, rfl, hbg, hg, hnc, hcm, hcs, htake⟩
 ·have hl0 : l = [] := List.eq_nil_of_length_eq_zero hn
  subst hl0
  obtain rfl : p = 0 := by simpa using hp
  refine Calls.mono (Any2.slices_Insert_int_end_grow Try.lays21 none 0 0 g2 0 1 1 [] [.int .i64 x] W (by omega) (by omega) (by omega) (by omega) rfl rfl (fun _ => rfl) (fun a h => by cases h) hvs h1v) ?_
  rintro e w' ⟨rfl, rfl⟩
  refine ⟨_, rfl, ?_, ⟨rfl, rfl, rfl, by simp, fun k hk _ => heap_alloc_old W.drew _ hk⟩⟩
  have hz1 : (Value.int .i64 0).cells.size = 1 := rfl
  have h := R_new (base := base) (ys := [x]) (heap_alloc_new W.drew (.cells (([] ++ [Value.int .i64 x]).toArray ++ Builtin.zeroCells (Value.int .i64 0).cells (grownCap W (0 + 1) 0 3 - (0 + 1))) 3)) hb (hgc 0) (hgm 0) (by
   simp only [Array.size_append, List.size_toArray, size_zeroCells, hz1, List.nil_append, List.length_cons, List.length_nil]
   have := hgc 0
   simp only [List.length_nil] at this
   omega) (by simp [encs])
  exact h
 ·have hcs1 : cur.size = cap := by omega
  have hcl : cur.toList.length = cap := by rw [Array.length_toList, hcs1]
  rw [Nat.mul_one] at htake
  have hcell : ∀ j v, (encs (Value.int .i64) l)[j]? = some v → W.cell? ⟨g, 0 + j, none⟩ = some v := by
   intro j v hj
   rw [Nat.zero_add, cell_of_row W g j cur 3 (0, 0) hg]
   rw [← htake, List.getElem?_take] at hj
   split at hj
   ·rw [← Array.getElem?_toList]; exact hj
   ·cases hj
  have hsome : ∀ j, j < cap → (W.cell? ⟨g, j, none⟩).isSome = true := by
   intro j hj
   rw [cell_of_row W g j cur 3 (0, 0) hg]
   simp; omega
  have hfz : ∀ j, W.frozen? ⟨g, j, none⟩ = false := fun j => blk_frozen hg _
  have hgg : g2 ≠ g := fun h => hne (by rw [h]; rfl)
  by_cases hpn : p = l.length
  ·subst hpn
   have e1 : l.take l.length ++ ([x] ++ l.drop l.length) = l ++ [x] := by simp
   by_cases hroom : l.length + 1 ≤ cap
   ·refine Calls.mono (Any2.slices_Insert_int_end_room Try.lays21 g 0 l.length cap g2 0 1 1 [.int .i64 x] W (by omega) hroom (by simpa only [maxLen] using hcm) rfl (fun j hj => hsome _ (by omega)) (fun j _ => hfz _) hvs h1v) ?_
    rintro e w' ⟨rfl, rfl⟩
    refine ⟨_, rfl, ?_, setCells_grown W g _ _⟩
    obtain ⟨cur', h3, h4, h5⟩ := setCells_row [Value.int .i64 x] (0 + l.length) W cur hg (by simp; omega)
    have h := R_new (base := base) (cap := cap) (ys := l.take l.length ++ ([x] ++ l.drop l.length)) h3 hbg (by rw [hyl]; exact hroom) hcm (by rw [h4, hcs1]) (by
     rw [hyl, h5, hye, List.take_of_length_le (l := encs (Value.int .i64) l) (by omega), List.drop_of_length_le (l := encs (Value.int .i64) l) (by omega), Nat.zero_add, htake]
     exact List.take_left' (by simp [hel]))
    rw [hyl] at h
    exact h
   ·refine Calls.mono (Any2.slices_Insert_int_end_grow Try.lays21 (some ⟨g, 0, none⟩) l.length cap g2 0 1 1 (encs (Value.int .i64) l) [.int .i64 x] W (by omega) hnc (by omega) (by omega) hel rfl (fun h => by cases h) (fun a h j v hj => by obtain rfl := Option.some.inj h; have := hcell j v hj; rw [Nat.zero_add] at this; rw [add_plain]; exact this) hvs h1v) ?_
    rintro e w' ⟨rfl, rfl⟩
    refine ⟨_, rfl, ?_, ⟨rfl, rfl, rfl, by simp, fun k hk _ => heap_alloc_old W.drew _ hk⟩⟩
    have h := R_new (base := base) (ys := l.take l.length ++ ([x] ++ l.drop l.length)) (heap_alloc_new W.drew (.cells ((encs (Value.int .i64) l ++ [Value.int .i64 x]).toArray ++ Builtin.zeroCells (Value.int .i64 0).cells (grownCap W (l.length + 1) cap 3 - (l.length + 1))) 3)) hb (by rw [hyl]; exact hgc cap) (hgm cap) (by
      have hz1 : (Value.int .i64 0).cells.size = 1 := rfl
      simp only [Array.size_append, List.size_toArray, size_zeroCells, List.length_append, hel, hz1]
      have := hgc cap
      simp
      omega) (by
      rw [hyl, hye, List.take_of_length_le (l := encs (Value.int .i64) l) (by omega), List.drop_of_length_le (l := encs (Value.int .i64) l) (by omega), Array.toList_append]
      exact List.take_left' (by simp [hel]))
    rw [hyl] at h
    exact h
  ·have hplt : p < l.length := by omega
   by_cases hroom : l.length + 1 ≤ cap
   ·refine Calls.mono (Any2.slices_Insert_int_shift Try.lays21 g 0 l.length cap p g2 0 1 1 (encs (Value.int .i64) l) [.int .i64 x] W hplt (by omega) hroom (by simpa only [maxLen] using hcm) hgg hel rfl hcell (fun j hj => hsome _ (by omega)) (fun j _ => hfz _) hvs h1c h1v 3 3 1 cap (by simp [World.shape?, hlit]) (by simp [World.shape?, hg, hcs1]) (by omega) (blk_frozen hlit _) (blk_frozen hlit _)) ?_
    rintro e w' ⟨rfl, rfl⟩
    have hg1 : W.drew.heap[g]? = some (.cells cur 3 (0, 0)) := hg
    obtain ⟨cur1, h3, h4, h5⟩ := setCells_row ((encs (Value.int .i64) l).drop p) (0 + (p + 1)) W.drew cur hg1 (by simp [hel]; omega)
    obtain ⟨cur2, h6, h7, h8⟩ := setCells_row [Value.int .i64 x] (0 + p) _ cur1 h3 (by simp; omega)
    refine ⟨_, rfl, ?_, ?_⟩
    ·have h := R_new (base := base) (cap := cap) (ys := l.take p ++ ([x] ++ l.drop p)) h6 hbg (by rw [hyl]; exact hroom) hcm (by rw [h7, h4, hcs1]) (by
      rw [hyl, h8, h5, hye, Nat.zero_add, Nat.zero_add]
      exact ins_room cur.toList _ l.length p (.int .i64 x) htake hel (by omega) (by omega))
     rw [hyl] at h
     exact h
    ·have g1 : W.grownBy W.drew (some g) := ⟨rfl, rfl, rfl, Nat.le_refl _, fun _ _ _ => rfl⟩
     exact (g1.trans (setCells_grown _ g _ _)).trans (setCells_grown _ g _ _)
   ·refine Calls.mono (Any2.slices_Insert_int_grow Try.lays21 g 0 l.length cap p g2 0 1 1 (encs (Value.int .i64) l) [.int .i64 x] W hplt (by omega) hnc (by omega) (by omega) hel rfl hcell hvs h1c h1v) ?_
    rintro e w' ⟨rfl, rfl⟩
    have hn1 := heap_alloc_new W (.cells (((encs (Value.int .i64) l).take p).toArray ++ Builtin.zeroCells (Value.int .i64 0).cells (l.length + 1 - p) ++ Builtin.zeroCells (Value.int .i64 0).cells (grownCap W (l.length + 1) cap 3 - (l.length + 1))) 3)
    obtain ⟨gc, hgce⟩ : ∃ gc, grownCap W (l.length + 1) cap 3 = gc := ⟨_, rfl⟩
    have hgc1 := hgc cap
    have hgm1 := hgm cap
    have hg0 : ∀ (row : Option Nat) (c : Array Value), W.grownBy (W.alloc (.cells c 3)) row := fun row c => World.grownBy_alloc W _ row
    have hT : Try.lays21_ren.t 3 = 3 := rfl
    rw [hT, hgce]
    rw [hgce] at hn1 hgc1 hgm1
    obtain ⟨C0, hC0⟩ : ∃ C0 : Array Value, ((encs (Value.int .i64) l).take p).toArray ++ Builtin.zeroCells (Value.int .i64 0).cells (l.length + 1 - p) ++ Builtin.zeroCells (Value.int .i64 0).cells (gc - (l.length + 1)) = C0 := ⟨_, rfl⟩
    have hC0s : C0.size = gc := by
     rw [← hC0]
     simp only [Array.size_append, List.size_toArray, size_zeroCells, List.length_take, hel]
     have : (Value.int .i64 0).cells.size = 1 := rfl
     rw [this]
     omega
    have hC0t : C0.toList.take p = (encs (Value.int .i64) l).take p := by
     rw [← hC0, Array.append_assoc, Array.toList_append]
     exact List.take_left' (by rw [List.length_take]; omega)
    have hC0l : C0.toList.length = gc := by rw [Array.length_toList, hC0s]
    rw [hC0] at hn1
    rw [hC0]
    have hn2 : (W.alloc (.cells C0 3)).drew.heap[W.heap.size]? = some (.cells C0 3 (0, 0)) := hn1
    obtain ⟨cur1, h3, h4, h5⟩ := setCells_row [Value.int .i64 x] p _ C0 hn2 (by simp; omega)
    have h3' : ((W.alloc (.cells C0 3)).drew.setCells W.heap.size p [Value.int .i64 x]).drew.heap[W.heap.size]? = some (.cells cur1 3 (0, 0)) := h3
    obtain ⟨cur2, h6, h7, h8⟩ := setCells_row ((encs (Value.int .i64) l).drop p) (p + 1) _ cur1 h3' (by simp [hel]; omega)
    refine ⟨_, rfl, ?_, ?_⟩
    ·have h := R_new (base := base) (cap := gc) (ys := l.take p ++ ([x] ++ l.drop p)) h6 hb (by rw [hyl]; exact hgc1) hgm1 (by rw [h7, h4, hC0s]) (by
      rw [hyl, h8, h5, hye]
      exact ins_grow C0.toList _ l.length p (.int .i64 x) hC0t hel (by omega) (by omega))
     rw [hyl] at h
     exact h
    ·obtain ⟨s1, s2, s3, s4⟩ := setCells_same W.heap.size [Value.int .i64 x] p (W.alloc (.cells C0 3)).drew
     obtain ⟨t1, t2, t3, t4⟩ := setCells_same W.heap.size ((encs (Value.int .i64) l).drop p) (p + 1) ((W.alloc (.cells C0 3)).drew.setCells W.heap.size p [Value.int .i64 x]).drew
     refine ⟨t1.trans s1, t2.trans s2, t3.trans s3, ?_, fun k hk _ => ?_⟩
     ·rw [t4]; show _ ≤ ((W.alloc (.cells C0 3)).drew.setCells W.heap.size p [Value.int .i64 x]).heap.size; rw [s4]; show W.heap.size ≤ (W.alloc (.cells C0 3)).heap.size; simp
     ·rw [setCells_far _ _ k (by omega)]
      show ((W.alloc (.cells C0 3)).drew.setCells W.heap.size p [Value.int .i64 x]).heap[k]? = _
      rw [setCells_far _ _ k (by omega)]
      exact heap_alloc_old W _ hk
def swAtI (a0 a1 : Int) : Int := if Int.tmod (wrap64 (Int.tdiv a1 a0)) 2 = 0 then wrap64 (wrap64 (a0 - 1) - Int.tmod a1 a0) else Int.tmod a1 a0
def impl_swapped.f : Nat → Int → Int → Option (List Int)
 | 0, _, _ => none
 | k + 1, a0, a1 => if a0 = 0 then some [] else (impl_swapped.f k (wrap64 (a0 - 1)) (wrap64 (Int.tdiv a1 a0))).bind fun l => if 0 ≤ swAtI a0 a1 then (if swAtI a0 a1 ≤ (l.length : Int) then (if l.length < 17592186044000 then some (l.take (swAtI a0 a1).toNat ++ ([wrap64 (a0 - 1)] ++ l.drop (swAtI a0 a1).toNat)) else none) else none) else none
theorem impl_swapped.mono : ∀ a0 a1 k, LeO (impl_swapped.f k a0 a1) (impl_swapped.f (k + 1) a0 a1)
 | a0, a1, 0 => fun r h => by simp [impl_swapped.f] at h
 | a0, a1, k + 1 => by
  rw [impl_swapped.f, impl_swapped.f]
  repeat' first
   | (with_reducible exact impl_swapped.mono _ _ k)
   | (with_reducible exact LeO.refl _)
   | (with_reducible exact LeO.none _)
   | (with_reducible refine LeO.ite ?_ ?_)
   | (with_reducible refine LeO.bind ?_ (fun _ => ?_))
set_option maxHeartbeats 8000000 in
set_option maxRecDepth 100000 in
theorem impl_swapped.calls : ∀ (k : Nat) (a0 a1 : Int) (r : List Int) (w : World) (h : impl_swapped.f k a0 a1 = some r),
  Calls Try.prog 76 #[.int .i64 a0, .int .i64 a1] w fun e w' => ∃ v0_ : Value, e = .returned v0_ ∧ Kd.R (Kd.int .i64) 3 w' w.heap.size (fun _ => True) v0_ r ∧ Below w.heap.size w w'
 | 0, _, _, _, _, h => by simp [impl_swapped.f] at h
 | k + 1, a0, a1, r, w, h => by
  have IH := Aside0.mk (impl_swapped.calls k)
  rw [impl_swapped.f] at h
  by_cases c1 : a0 = 0
  ·rw [if_pos c1] at h
   obtain rfl := Option.some.inj h
   have c1b : (a0 == 0) = true := by simp [c1]
   go_enter Try.func76, Try.ntmps76
   go_wp2
   go_ret
   exact ⟨_, rfl, Kd.R_nil _ _ _ _ _, by repeat (first | exact Below.refl _ w | apply pw_below_drewN | apply below_drew1)⟩
  ·rw [if_neg c1] at h
   have c1b : (a0 == 0) = false := beq_eq_false_iff_ne.mpr c1
   have c1c : (a0 != 0) = true := bne_iff_ne.mpr c1
   obtain ⟨l, A1, H⟩ := Option.bind_eq_some_iff.mp h
   clear h
   have HP : Aside0 (∃ p : Nat, swAtI a0 a1 = (p : Int) ∧ p ≤ l.length ∧ l.length < 17592186044000 ∧ l.take p ++ ([wrap64 (a0 - 1)] ++ l.drop p) = r) := by
    by_cases c2 : 0 ≤ swAtI a0 a1
    ·rw [if_pos c2] at H
     by_cases c3 : swAtI a0 a1 ≤ (l.length : Int)
     ·rw [if_pos c3] at H
      by_cases c4 : l.length < 17592186044000
      ·rw [if_pos c4] at H
       obtain ⟨p, hp⟩ := Int.eq_ofNat_of_zero_le c2
       rw [hp] at H c3
       rw [Int.toNat_natCast] at H
       exact ⟨p, hp, by omega, c4, Option.some.inj H⟩
      ·rw [if_neg c4] at H; cases H
     ·rw [if_neg c3] at H; cases H
    ·rw [if_neg c2] at H; cases H
   clear H
   obtain ⟨p, hp, h1, h2, rfl⟩ := HP.out
   clear HP
   have HPL := Aside0.mk h1
   have HLL := Aside0.mk h2
   have HA1 := Aside0.mk A1
   clear h1 h2 A1
   unfold swAtI at hp
   have HINS : ∀ (W w1 : World) (v1 : Value) (N : Nat), Kd.R (Kd.int .i64) 3 w1 w.heap.size (fun _ => True) v1 l → Below w.heap.size w w1 → W = w1.alloc (.cells #[.int .i64 (wrap64 (a0 - 1))] 3) → N = w1.heap.size →
     Calls Try.prog 84 #[v1, .int .i64 (p : Int), .slice (some ⟨N, 0, none⟩) 1 1] W fun e w' => ∃ v', e = .returned v' ∧ Kd.R (Kd.int .i64) 3 w' w.heap.size (fun _ => True) v' (l.take p ++ ([wrap64 (a0 - 1)] ++ l.drop p)) ∧ Below w.heap.size w w' := by
    intro W w1 v1 N hR hb hW hN
    subst hW; subst hN
    have hb1 : w.heap.size ≤ w1.heap.size := hb.size
    have ho := Kd.own_of_R hR
    refine (insert_world (w1.alloc (.cells #[.int .i64 (wrap64 (a0 - 1))] 3)) w.heap.size v1 l p (wrap64 (a0 - 1)) w1.heap.size HPL.out HLL.out (Kd.R_alloc hR _) (by simp; omega) (heap_alloc_new w1 _) (fun h => by have := own_lt ho _ h; omega)).mono ?_
    rintro e w' ⟨v', rfl, hR', hg'⟩
    exact ⟨v', rfl, hR', (hb.alloc hb1 _).grown hg' (by simp; omega) (own_base ho)⟩
   have HINS := Aside0.mk HINS
   by_cases c5 : Int.tmod (wrap64 (Int.tdiv a1 a0)) 2 = 0
   ·rw [if_pos c5] at hp
    have c5b0 : (Int.tmod (wrap64 (Int.tdiv a1 a0)) 2 == 0) = true := beq_iff_eq.mpr c5
    clear c5
    go_enter Try.func76, Try.ntmps76
    go_wp2_with (first | (go_at_call 76; (with_reducible refine (IH.out _ _ l _ HA1.out).mono ?_); rintro e w1 ⟨v1, rfl, hR1, hb1⟩) | (go_at_call 84; refine (HINS.out _ w1 v1 _ hR1 hb1 rfl rfl).mono ?_; rintro e w3 ⟨v3, rfl, hR3, hb3⟩))
    go_ret
    exact ⟨_, rfl, hR3, hb3⟩
   ·rw [if_neg c5] at hp
    have c5b0 : (Int.tmod (wrap64 (Int.tdiv a1 a0)) 2 == 0) = false := beq_eq_false_iff_ne.mpr c5
    clear c5
    go_enter Try.func76, Try.ntmps76
    go_wp2_with (first | (go_at_call 76; (with_reducible refine (IH.out _ _ l _ HA1.out).mono ?_); rintro e w1 ⟨v1, rfl, hR1, hb1⟩) | (go_at_call 84; refine (HINS.out _ w1 v1 _ hR1 hb1 rfl rfl).mono ?_; rintro e w3 ⟨v3, rfl, hR3, hb3⟩))
    go_ret
    exact ⟨_, rfl, hR3, hb3⟩

/-! ### impl_SwapPlace: function 40 -/
mutual
def impl_SwapPlace.j0 : Nat → Int → Int → Bool → Option (Int × Bool)
 | 0, _, _, _ => none
 | k + 1, x0, x1, x19 => if x19 = true then (some (0, false)) else ((impl_swapped.f k x0 x1).bind fun t138 => ((impl_swapped.f k x0 (wrap64 (x1 + 1))).bind fun t141 => (impl_SwapPlace.l0 k t138 t141 (t138.length : Int) 0)))
def impl_SwapPlace.l0 : Nat → List Int → List Int → Int → Int → Option (Int × Bool)
 | 0, _, _, _, _ => none
 | k + 1, x6, x7, x28, x29 => if x29 < x28 then (if 0 ≤ x29 then (if x29 < (x6.length : Int) then (if x29 < (x7.length : Int) then (if (rd x6 x29) = (rd x7 x29) then (impl_SwapPlace.l0 k x6 x7 x28 (wrap64 (x29 + 1))) else (some (x29, true))) else (none)) else (none)) else (none)) else (some (0, false))
end
def impl_SwapPlace.f (k : Nat) (a0 : Int) (a1 : Int) : Option (Int × Bool) := (impl_isSwapped.f k a0 a1).bind fun t136 => (if t136 = true then ((impl_orders.f k a0).bind fun t137 => (impl_SwapPlace.j0 k a0 a1 (a1 == (wrap64 (t137 - 1))))) else (impl_SwapPlace.j0 k a0 a1 true))
theorem impl_SwapPlace.mono_l : ∀ k, (∀ y0 y1 y2, LeO (impl_SwapPlace.j0 k y0 y1 y2) (impl_SwapPlace.j0 (k + 1) y0 y1 y2)) ∧ (∀ y0 y1 y2 y3, LeO (impl_SwapPlace.l0 k y0 y1 y2 y3) (impl_SwapPlace.l0 (k + 1) y0 y1 y2 y3))
 | 0 => ⟨fun _ _ _ r h => by simp [impl_SwapPlace.j0] at h, fun _ _ _ _ r h => by simp [impl_SwapPlace.l0] at h⟩
 | k + 1 => by
  obtain ⟨ih0, ih1⟩ := impl_SwapPlace.mono_l k
  refine ⟨?_, ?_⟩
  ·intro y0 y1 y2
   unfold impl_SwapPlace.j0
   repeat' first
   | (with_reducible exact ih0 _ _ _)
   | (with_reducible exact ih1 _ _ _ _)
   | (with_reducible exact impl_isSwapped.mono _ _ _)
   | (with_reducible exact impl_orders.mono _ _)
   | (with_reducible exact impl_swapped.mono _ _ _)
   | (with_reducible exact LeO.refl _)
   | (with_reducible exact LeO.none _)
   | (with_reducible refine LeO.ite ?_ ?_)
   | (with_reducible refine LeO.bind ?_ (fun _ => ?_))
   | exact ih0 _ _ _
   | exact ih1 _ _ _ _
   | exact impl_isSwapped.mono _ _ _
   | exact impl_orders.mono _ _
   | exact impl_swapped.mono _ _ _
   | exact LeO.none _
   | refine LeO.ite ?_ ?_
   | refine LeO.bind ?_ (fun _ => ?_)
  ·intro y0 y1 y2 y3
   unfold impl_SwapPlace.l0
   repeat' first
   | (with_reducible exact ih0 _ _ _)
   | (with_reducible exact ih1 _ _ _ _)
   | (with_reducible exact impl_isSwapped.mono _ _ _)
   | (with_reducible exact impl_orders.mono _ _)
   | (with_reducible exact impl_swapped.mono _ _ _)
   | (with_reducible exact LeO.refl _)
   | (with_reducible exact LeO.none _)
   | (with_reducible refine LeO.ite ?_ ?_)
   | (with_reducible refine LeO.bind ?_ (fun _ => ?_))
   | exact ih0 _ _ _
   | exact ih1 _ _ _ _
   | exact impl_isSwapped.mono _ _ _
   | exact impl_orders.mono _ _
   | exact impl_swapped.mono _ _ _
   | exact LeO.none _
   | refine LeO.ite ?_ ?_
   | refine LeO.bind ?_ (fun _ => ?_)
theorem impl_SwapPlace.mono : ∀ a0 a1 k, LeO (impl_SwapPlace.f k a0 a1) (impl_SwapPlace.f (k + 1) a0 a1) := by
 intro a0 a1 k
 obtain ⟨ih0, ih1⟩ := impl_SwapPlace.mono_l k
 unfold impl_SwapPlace.f
 repeat' first
   | (with_reducible exact ih0 _ _ _)
   | (with_reducible exact ih1 _ _ _ _)
   | (with_reducible exact impl_isSwapped.mono _ _ _)
   | (with_reducible exact impl_orders.mono _ _)
   | (with_reducible exact impl_swapped.mono _ _ _)
   | (with_reducible exact LeO.refl _)
   | (with_reducible exact LeO.none _)
   | (with_reducible refine LeO.ite ?_ ?_)
   | (with_reducible refine LeO.bind ?_ (fun _ => ?_))
   | exact ih0 _ _ _
   | exact ih1 _ _ _ _
   | exact impl_isSwapped.mono _ _ _
   | exact impl_orders.mono _ _
   | exact impl_swapped.mono _ _ _
   | exact LeO.none _
   | refine LeO.ite ?_ ?_
   | refine LeO.bind ?_ (fun _ => ?_)
set_option maxHeartbeats 8000000 in
set_option maxRecDepth 100000 in
theorem impl_SwapPlace.calls (k : Nat) (a0 : Int) (a1 : Int) (r1 : Int) (r2 : Bool) (w : World) (h : impl_SwapPlace.f k a0 a1 = some (r1, r2)) :
  Calls Try.prog 40 #[.int .i64 a0, .int .i64 a1] w fun e w' => e = .returned (.tuple #[.int .i64 r1, .bool r2]) ∧ Below w.heap.size w w' := by
 have HB := Aside0.mk (Below.refl w.heap.size w)
 have H : ((impl_isSwapped.f k a0 a1).bind fun t136 => (if t136 = true then ((impl_orders.f k a0).bind fun t137 => (impl_SwapPlace.j0 k a0 a1 (a1 == (wrap64 (t137 - 1))))) else (impl_SwapPlace.j0 k a0 a1 true))) = some (r1, r2) := h
 clear h
 have HC3 := Aside0.mk H
 clear H
 go_enter Try.func40, Try.ntmps40
 go_upto_region 1 with (fail)
 repeat (go_quiet (fail); go_upto_region 1 with (fail))
 go_cut [19] (fun v19 wc => ∃ (kq : Nat) (x19_2 : Bool), v19 = .bool x19_2 ∧ Aside0 (impl_SwapPlace.j0 kq a0 a1 x19_2 = some (r1, r2)) ∧ Aside0 (kq ≤ k) ∧ Aside0 (Below w.heap.size w wc))
 case first =>
  have H := HC3.out
  clear HC3
  replace H := Option.bind_eq_some_iff.mp H
  obtain ⟨t136, A40, H⟩ := H
  replace H : (if t136 = true then ((impl_orders.f k a0).bind fun t137 => (impl_SwapPlace.j0 k a0 a1 (a1 == (wrap64 (t137 - 1))))) else (impl_SwapPlace.j0 k a0 a1 true)) = some (r1, r2) := H
  have A4 := Aside0.mk A40
  clear A40
  by_cases c5 : t136 = true
  ·subst c5
   have H1 : ((impl_orders.f k a0).bind fun t137 => (impl_SwapPlace.j0 k a0 a1 (a1 == (wrap64 (t137 - 1))))) = some (r1, r2) := by rw [if_pos rfl] at H; exact H
   clear H
   have H := H1
   clear H1
   replace H := Option.bind_eq_some_iff.mp H
   obtain ⟨t137, A60, H⟩ := H
   replace H : (impl_SwapPlace.j0 k a0 a1 (a1 == (wrap64 (t137 - 1)))) = some (r1, r2) := H
   have A6 := Aside0.mk A60
   clear A60
   have H' := Aside0.mk H
   clear H
   go_wp2_with (first | (go_at_call 74; (with_reducible refine (impl_isSwapped.calls k a0 a1 true _ A4.out).mono ?_); rintro e w' ⟨rfl, ⟨nd, rfl⟩⟩; (try first | exact ⟨rfl, _, World.drewN_drewN _ _ _⟩ | exact ⟨rfl, _, Eq.trans (World.drewN_drewN _ _ _) (congrArg (World.drewN _) (Nat.add_assoc _ _ _))⟩)) | (go_at_call 75; (with_reducible refine (impl_orders.calls k a0 t137 _ A6.out).mono ?_); rintro e w' ⟨rfl, ⟨nd, rfl⟩⟩; (try first | exact ⟨rfl, _, World.drewN_drewN _ _ _⟩ | exact ⟨rfl, _, Eq.trans (World.drewN_drewN _ _ _) (congrArg (World.drewN _) (Nat.add_assoc _ _ _))⟩)))
   repeat (go_quiet (first | (go_at_call 74; (with_reducible refine (impl_isSwapped.calls k a0 a1 true _ A4.out).mono ?_); rintro e w' ⟨rfl, ⟨nd, rfl⟩⟩; (try first | exact ⟨rfl, _, World.drewN_drewN _ _ _⟩ | exact ⟨rfl, _, Eq.trans (World.drewN_drewN _ _ _) (congrArg (World.drewN _) (Nat.add_assoc _ _ _))⟩)) | (go_at_call 75; (with_reducible refine (impl_orders.calls k a0 t137 _ A6.out).mono ?_); rintro e w' ⟨rfl, ⟨nd, rfl⟩⟩; (try first | exact ⟨rfl, _, World.drewN_drewN _ _ _⟩ | exact ⟨rfl, _, Eq.trans (World.drewN_drewN _ _ _) (congrArg (World.drewN _) (Nat.add_assoc _ _ _))⟩))); try go_wp2_with (first | (go_at_call 74; (with_reducible refine (impl_isSwapped.calls k a0 a1 true _ A4.out).mono ?_); rintro e w' ⟨rfl, ⟨nd, rfl⟩⟩; (try first | exact ⟨rfl, _, World.drewN_drewN _ _ _⟩ | exact ⟨rfl, _, Eq.trans (World.drewN_drewN _ _ _) (congrArg (World.drewN _) (Nat.add_assoc _ _ _))⟩)) | (go_at_call 75; (with_reducible refine (impl_orders.calls k a0 t137 _ A6.out).mono ?_); rintro e w' ⟨rfl, ⟨nd, rfl⟩⟩; (try first | exact ⟨rfl, _, World.drewN_drewN _ _ _⟩ | exact ⟨rfl, _, Eq.trans (World.drewN_drewN _ _ _) (congrArg (World.drewN _) (Nat.add_assoc _ _ _))⟩))))
   go_meet
   case rel => exact ⟨_, ((a1 == (wrap64 (t137 - 1)))), (by first | rfl | (simp; done) | (simp [*]; done)), H', ⟨by first | omega | exact Nat.le_refl _⟩, ⟨by repeat (first | (with_reducible first | exact HB.out | apply below_alloc | apply pw_below_drewN | apply below_drew1) | exact HB.out)⟩⟩
  ·replace c5 := Bool.eq_false_iff.mpr c5
   subst c5
   have H1 : (impl_SwapPlace.j0 k a0 a1 true) = some (r1, r2) := by rw [if_neg (show ¬ (false = true) by decide)] at H; exact H
   clear H
   have H := H1
   clear H1
   have H' := Aside0.mk H
   clear H
   go_wp2_with (first | (go_at_call 74; (with_reducible refine (impl_isSwapped.calls k a0 a1 false _ A4.out).mono ?_); rintro e w' ⟨rfl, ⟨nd, rfl⟩⟩; (try first | exact ⟨rfl, _, World.drewN_drewN _ _ _⟩ | exact ⟨rfl, _, Eq.trans (World.drewN_drewN _ _ _) (congrArg (World.drewN _) (Nat.add_assoc _ _ _))⟩)))
   repeat (go_quiet (first | (go_at_call 74; (with_reducible refine (impl_isSwapped.calls k a0 a1 false _ A4.out).mono ?_); rintro e w' ⟨rfl, ⟨nd, rfl⟩⟩; (try first | exact ⟨rfl, _, World.drewN_drewN _ _ _⟩ | exact ⟨rfl, _, Eq.trans (World.drewN_drewN _ _ _) (congrArg (World.drewN _) (Nat.add_assoc _ _ _))⟩))); try go_wp2_with (first | (go_at_call 74; (with_reducible refine (impl_isSwapped.calls k a0 a1 false _ A4.out).mono ?_); rintro e w' ⟨rfl, ⟨nd, rfl⟩⟩; (try first | exact ⟨rfl, _, World.drewN_drewN _ _ _⟩ | exact ⟨rfl, _, Eq.trans (World.drewN_drewN _ _ _) (congrArg (World.drewN _) (Nat.add_assoc _ _ _))⟩))))
   go_meet
   case rel => exact ⟨_, (true), (by first | rfl | (simp; done) | (simp [*]; done)), H', ⟨by first | omega | exact Nat.le_refl _⟩, ⟨by repeat (first | (with_reducible first | exact HB.out | apply below_alloc | apply pw_below_drewN | apply below_drew1) | exact HB.out)⟩⟩
 case rest =>
  clear HC3
  try clear p2
  try clear c4
  try clear c5
  try clear p6
  obtain ⟨kq, x19_2, rfl, HA, HJ2, HB⟩ := hcut
  cases kq with
  | zero => exact absurd HA.out (by simp [impl_SwapPlace.j0])
  | succ kj2 =>
   have H := HA.out
   clear HA
   simp only [impl_SwapPlace.j0] at H
   by_cases c7 : x19_2 = true
   ·subst c7
    have H1 : (some (0, false)) = some (r1, r2) := by rw [if_pos rfl] at H; exact H
    clear H
    have H := H1
    clear H1
    simp only [Option.some.injEq, Prod.mk.injEq] at H
    obtain ⟨rfl, rfl⟩ := H
    go_wp2
    repeat (go_quiet (fail); try go_wp2)
    go_ret2
    exact ⟨by first | rfl | (simp [errW_none, errW_some] <;> rfl) | (simp [*, errW_none, errW_some] <;> rfl), by repeat (first | (with_reducible first | exact HB.out | apply below_alloc | apply pw_below_drewN | apply below_drew1) | exact HB.out)⟩
   ·replace c7 := Bool.eq_false_iff.mpr c7
    subst c7
    have H1 : ((impl_swapped.f kj2 a0 a1).bind fun t138 => ((impl_swapped.f kj2 a0 (wrap64 (a1 + 1))).bind fun t141 => (impl_SwapPlace.l0 kj2 t138 t141 (t138.length : Int) 0))) = some (r1, r2) := by rw [if_neg (show ¬ (false = true) by decide)] at H; exact H
    clear H
    have H := H1
    clear H1
    replace H := Option.bind_eq_some_iff.mp H
    obtain ⟨t138, A80, H⟩ := H
    replace H : ((impl_swapped.f kj2 a0 (wrap64 (a1 + 1))).bind fun t141 => (impl_SwapPlace.l0 kj2 t138 t141 (t138.length : Int) 0)) = some (r1, r2) := H
    have A8 := Aside0.mk A80
    clear A80
    replace H := Option.bind_eq_some_iff.mp H
    obtain ⟨t141, A90, H⟩ := H
    replace H : (impl_SwapPlace.l0 kj2 t138 t141 (t138.length : Int) 0) = some (r1, r2) := H
    have A9 := Aside0.mk A90
    clear A90
    have H' := Aside0.mk H
    clear H
    go_wp2_with (first | (go_at_call 76; (with_reducible refine (impl_swapped.calls kj2 a0 a1 t138 _ A8.out).mono ?_); rintro e w10 ⟨v139, rfl, ho0, hb⟩; have n0_ := Aside0.mk (Kd.R_lower ho0 (below_size (by repeat (first | (with_reducible first | exact HB.out | apply below_alloc | apply pw_below_drewN | apply below_drew1) | exact HB.out)))); have n1_ := Aside0.mk (below_step (by repeat (first | (with_reducible first | exact HB.out | apply below_alloc | apply pw_below_drewN | apply below_drew1) | exact HB.out)) hb); clear HB; have HO140 := n0_; have HB := n1_; clear n0_ n1_; (try clear hb); (try clear hb2); (try clear hk); (try clear hi); (try clear ho0)) | (go_at_call 76; (with_reducible refine (impl_swapped.calls kj2 a0 (wrap64 (a1 + 1)) t141 _ A9.out).mono ?_); rintro e w11 ⟨v142, rfl, ho0, hb⟩; have n0_ := Aside0.mk (Kd.R_elder' (by (with_reducible repeat (first | apply Kd.R_alloc | apply Kd.R_drewN | apply Kd.R_drew)); exact HO140.out) (Kd.R_base ho0) hb); have n1_ := Aside0.mk (Kd.R_lower (Kd.R_new' ho0 (Kd.R_lt (by (with_reducible repeat (first | apply Kd.R_alloc | apply Kd.R_drewN | apply Kd.R_drew)); exact HO140.out))) (below_size (by repeat (first | (with_reducible first | exact HB.out | apply below_alloc | apply pw_below_drewN | apply below_drew1) | exact HB.out)))); have n2_ := Aside0.mk (below_step (by repeat (first | (with_reducible first | exact HB.out | apply below_alloc | apply pw_below_drewN | apply below_drew1) | exact HB.out)) hb); clear HO140; clear HB; have HO140 := n0_; have HO143 := n1_; have HB := n2_; clear n0_ n1_ n2_; (try clear hb); (try clear hb2); (try clear hk); (try clear hi); (try clear ho0); obtain ⟨Ao12, co12, eo12⟩ := Kd.R_slice HO140.out; subst eo12))
    repeat (go_quiet (first | (go_at_call 76; (with_reducible refine (impl_swapped.calls kj2 a0 a1 t138 _ A8.out).mono ?_); rintro e w10 ⟨v139, rfl, ho0, hb⟩; have n0_ := Aside0.mk (Kd.R_lower ho0 (below_size (by repeat (first | (with_reducible first | exact HB.out | apply below_alloc | apply pw_below_drewN | apply below_drew1) | exact HB.out)))); have n1_ := Aside0.mk (below_step (by repeat (first | (with_reducible first | exact HB.out | apply below_alloc | apply pw_below_drewN | apply below_drew1) | exact HB.out)) hb); clear HB; have HO140 := n0_; have HB := n1_; clear n0_ n1_; (try clear hb); (try clear hb2); (try clear hk); (try clear hi); (try clear ho0)) | (go_at_call 76; (with_reducible refine (impl_swapped.calls kj2 a0 (wrap64 (a1 + 1)) t141 _ A9.out).mono ?_); rintro e w11 ⟨v142, rfl, ho0, hb⟩; have n0_ := Aside0.mk (Kd.R_elder' (by (with_reducible repeat (first | apply Kd.R_alloc | apply Kd.R_drewN | apply Kd.R_drew)); exact HO140.out) (Kd.R_base ho0) hb); have n1_ := Aside0.mk (Kd.R_lower (Kd.R_new' ho0 (Kd.R_lt (by (with_reducible repeat (first | apply Kd.R_alloc | apply Kd.R_drewN | apply Kd.R_drew)); exact HO140.out))) (below_size (by repeat (first | (with_reducible first | exact HB.out | apply below_alloc | apply pw_below_drewN | apply below_drew1) | exact HB.out)))); have n2_ := Aside0.mk (below_step (by repeat (first | (with_reducible first | exact HB.out | apply below_alloc | apply pw_below_drewN | apply below_drew1) | exact HB.out)) hb); clear HO140; clear HB; have HO140 := n0_; have HO143 := n1_; have HB := n2_; clear n0_ n1_ n2_; (try clear hb); (try clear hb2); (try clear hk); (try clear hi); (try clear ho0); obtain ⟨Ao12, co12, eo12⟩ := Kd.R_slice HO140.out; subst eo12)); try go_wp2_with (first | (go_at_call 76; (with_reducible refine (impl_swapped.calls kj2 a0 a1 t138 _ A8.out).mono ?_); rintro e w10 ⟨v139, rfl, ho0, hb⟩; have n0_ := Aside0.mk (Kd.R_lower ho0 (below_size (by repeat (first | (with_reducible first | exact HB.out | apply below_alloc | apply pw_below_drewN | apply below_drew1) | exact HB.out)))); have n1_ := Aside0.mk (below_step (by repeat (first | (with_reducible first | exact HB.out | apply below_alloc | apply pw_below_drewN | apply below_drew1) | exact HB.out)) hb); clear HB; have HO140 := n0_; have HB := n1_; clear n0_ n1_; (try clear hb); (try clear hb2); (try clear hk); (try clear hi); (try clear ho0)) | (go_at_call 76; (with_reducible refine (impl_swapped.calls kj2 a0 (wrap64 (a1 + 1)) t141 _ A9.out).mono ?_); rintro e w11 ⟨v142, rfl, ho0, hb⟩; have n0_ := Aside0.mk (Kd.R_elder' (by (with_reducible repeat (first | apply Kd.R_alloc | apply Kd.R_drewN | apply Kd.R_drew)); exact HO140.out) (Kd.R_base ho0) hb); have n1_ := Aside0.mk (Kd.R_lower (Kd.R_new' ho0 (Kd.R_lt (by (with_reducible repeat (first | apply Kd.R_alloc | apply Kd.R_drewN | apply Kd.R_drew)); exact HO140.out))) (below_size (by repeat (first | (with_reducible first | exact HB.out | apply below_alloc | apply pw_below_drewN | apply below_drew1) | exact HB.out)))); have n2_ := Aside0.mk (below_step (by repeat (first | (with_reducible first | exact HB.out | apply below_alloc | apply pw_below_drewN | apply below_drew1) | exact HB.out)) hb); clear HO140; clear HB; have HO140 := n0_; have HO143 := n1_; have HB := n2_; clear n0_ n1_ n2_; (try clear hb); (try clear hb2); (try clear hk); (try clear hi); (try clear ho0); obtain ⟨Ao12, co12, eo12⟩ := Kd.R_slice HO140.out; subst eo12)))
    go_loopg [29] kj2 (fun kq v29 w' => ∃ (x29_2 : Int), v29 = .int .i64 x29_2 ∧ Aside0 (impl_SwapPlace.l0 kq t138 t141 (t138.length : Int) x29_2 = some (r1, r2)) ∧ Aside0 (kq ≤ kj2) ∧ Aside0 (Kd.R (Kd.int .i64) 3 w' w.heap.size (fun k_ => some k_ ≠ (v142 : Value).ownBlock) (.slice Ao12 t138.length co12) t138) ∧ Aside0 (Kd.R (Kd.int .i64) 3 w' w.heap.size (fun k_ => some k_ ≠ ((.slice Ao12 t138.length co12) : Value).ownBlock) v142 t141) ∧ Aside0 (Below w.heap.size w w'))
    case atStart => exact ⟨(0), (by first | rfl | (simp; done) | (simp [*]; done)), H', ⟨Nat.le_refl _⟩, ⟨by (with_reducible repeat (first | apply Kd.R_alloc | apply Kd.R_drewN | apply Kd.R_drew)); exact Kd.R_mono HO140.out (fun _ hk => hk.2)⟩, ⟨by (with_reducible repeat (first | apply Kd.R_alloc | apply Kd.R_drewN | apply Kd.R_drew)); exact Kd.R_mono HO143.out (fun _ hk => hk.2)⟩, ⟨by repeat (first | (with_reducible first | exact HB.out | apply below_alloc | apply pw_below_drewN | apply below_drew1) | exact HB.out)⟩⟩
    case round =>
     clear H'
     try clear p2
     try clear c4
     try clear c5
     try clear p6
     try clear c7
     try clear p2
     try clear p6
     obtain ⟨x29_2, rfl, HA, HK2, HO_6, HO_7, HB⟩ := hrel
     cases gk with
     | zero => exact absurd HA.out (by simp [impl_SwapPlace.l0])
     | succ k2 =>
      have H := HA.out
      clear HA
      simp only [impl_SwapPlace.l0] at H
      by_cases c13 : x29_2 < (t138.length : Int)
      ·rw [if_pos c13] at H
       have c13b0 : decide (x29_2 < (t138.length : Int)) = true := decide_eq_true c13
       clear c13
       by_cases c14 : 0 ≤ x29_2
       ·rw [if_pos c14] at H
        have c14b0 : decide (0 ≤ x29_2) = true := decide_eq_true c14
        clear c14
        by_cases c15 : x29_2 < (t138.length : Int)
        ·rw [if_pos c15] at H
         have c15b0 : decide (x29_2 < (t138.length : Int)) = true := decide_eq_true c15
         clear c15
         by_cases c16 : x29_2 < (t141.length : Int)
         ·rw [if_pos c16] at H
          have c16b0 : decide (x29_2 < (t141.length : Int)) = true := decide_eq_true c16
          clear c16
          by_cases c17 : (rd t138 x29_2) = (rd t141 x29_2)
          ·rw [if_pos c17] at H
           have c17b0 : ((rd t138 x29_2) == (rd t141 x29_2)) = true := beq_iff_eq.mpr c17
           have c17b1 : ((rd t138 x29_2) != (rd t141 x29_2)) = false := bne_eq_false_iff_eq.mpr c17
           clear c17
           have H' := Aside0.mk H
           clear H
           have p144 : 0 ≤ (x29_2 : Int) := of_decide_eq_true (by first | (with_reducible assumption) | assumption)
           have q144 : x29_2 < (t138.length : Int) := of_decide_eq_true (by first | (with_reducible assumption) | assumption)
           obtain ⟨ad144, e144, hx144_0⟩ := Kd.at_int (Kd.R_reads' HO_6.out).2.2 x29_2 p144 q144
           cases e144
           replace p144 := eq_true p144
           replace q144 := eq_true q144
           obtain ⟨Ao18, co18, eo18⟩ := Kd.R_slice HO_7.out
           subst eo18
           have p145 : 0 ≤ (x29_2 : Int) := of_decide_eq_true (by first | (with_reducible assumption) | assumption)
           have q145 : x29_2 < (t141.length : Int) := of_decide_eq_true (by first | (with_reducible assumption) | assumption)
           obtain ⟨ad145, e145, hx145_0⟩ := Kd.at_int (Kd.R_reads' HO_7.out).2.2 x29_2 p145 q145
           cases e145
           replace p145 := eq_true p145
           replace q145 := eq_true q145
           go_wp2
           repeat (go_quiet (fail); try go_wp2)
           go_roundg k2
           case measure => have := HJ2.out; have := HK2.out; omega
           case rel => exact ⟨(wrap64 (x29_2 + 1)), (by first | rfl | (simp; done) | (simp [*]; done)), H', ⟨by have := HJ2.out; have := HK2.out; omega⟩, ⟨by (with_reducible repeat (first | apply Kd.R_alloc | apply Kd.R_drewN | apply Kd.R_drew)); exact HO_6.out⟩, ⟨by (with_reducible repeat (first | apply Kd.R_alloc | apply Kd.R_drewN | apply Kd.R_drew)); exact HO_7.out⟩, ⟨by repeat (first | (with_reducible first | exact HB.out | apply below_alloc | apply pw_below_drewN | apply below_drew1) | exact HB.out)⟩⟩
          ·rw [if_neg c17] at H
           have c17b0 : ((rd t138 x29_2) == (rd t141 x29_2)) = false := beq_eq_false_iff_ne.mpr c17
           have c17b1 : ((rd t138 x29_2) != (rd t141 x29_2)) = true := bne_iff_ne.mpr c17
           simp only [Option.some.injEq, Prod.mk.injEq] at H
           obtain ⟨rfl, rfl⟩ := H
           have p144 : 0 ≤ (x29_2 : Int) := of_decide_eq_true (by first | (with_reducible assumption) | assumption)
           have q144 : x29_2 < (t138.length : Int) := of_decide_eq_true (by first | (with_reducible assumption) | assumption)
           obtain ⟨ad144, e144, hx144_0⟩ := Kd.at_int (Kd.R_reads' HO_6.out).2.2 x29_2 p144 q144
           cases e144
           replace p144 := eq_true p144
           replace q144 := eq_true q144
           obtain ⟨Ao19, co19, eo19⟩ := Kd.R_slice HO_7.out
           subst eo19
           have p145 : 0 ≤ (x29_2 : Int) := of_decide_eq_true (by first | (with_reducible assumption) | assumption)
           have q145 : x29_2 < (t141.length : Int) := of_decide_eq_true (by first | (with_reducible assumption) | assumption)
           obtain ⟨ad145, e145, hx145_0⟩ := Kd.at_int (Kd.R_reads' HO_7.out).2.2 x29_2 p145 q145
           cases e145
           replace p145 := eq_true p145
           replace q145 := eq_true q145
           go_wp2
           repeat (go_quiet (fail); try go_wp2)
           go_ret2
           exact ⟨by first | rfl | (simp [errW_none, errW_some] <;> rfl) | (simp [*, errW_none, errW_some] <;> rfl), by repeat (first | (with_reducible first | exact HB.out | apply below_alloc | apply pw_below_drewN | apply below_drew1) | exact HB.out)⟩
         ·rw [if_neg c16] at H
          exact absurd H (by simp)
        ·rw [if_neg c15] at H
         exact absurd H (by simp)
       ·rw [if_neg c14] at H
        exact absurd H (by simp)
      ·rw [if_neg c13] at H
       have c13b0 : decide (x29_2 < (t138.length : Int)) = false := decide_eq_false c13
       clear c13
       simp only [Option.some.injEq, Prod.mk.injEq] at H
       obtain ⟨rfl, rfl⟩ := H
       go_wp2
       repeat (go_quiet (fail); try go_wp2)
       go_ret2
       exact ⟨by first | rfl | (simp [errW_none, errW_some] <;> rfl) | (simp [*, errW_none, errW_some] <;> rfl), by repeat (first | (with_reducible first | exact HB.out | apply below_alloc | apply pw_below_drewN | apply below_drew1) | exact HB.out)⟩

/-! ### laws_FnExactSwapPlace: function 13 -/
def laws_FnExactSwapPlace.f (k : Nat) (a0 : Int) (a1 : Int) : Option (Bool) := (spec_SwapPlace.f k a0 a1).bind fun bt146 => ((impl_SwapPlace.f k a0 a1).bind fun bt148 => (if bt148.1 = bt146.1 then (if (bt148.2 != bt146.2) = true then (some false) else (some true)) else (some false)))
theorem laws_FnExactSwapPlace.mono : ∀ a0 a1 k, LeO (laws_FnExactSwapPlace.f k a0 a1) (laws_FnExactSwapPlace.f (k + 1) a0 a1) := by
 intro a0 a1 k
 unfold laws_FnExactSwapPlace.f
 repeat' first
   | (with_reducible exact impl_SwapPlace.mono _ _ _)
   | (with_reducible exact spec_SwapPlace.mono _ _ _)
   | (with_reducible exact LeO.refl _)
   | (with_reducible exact LeO.none _)
   | (with_reducible refine LeO.ite ?_ ?_)
   | (with_reducible refine LeO.bind ?_ (fun _ => ?_))
   | exact impl_SwapPlace.mono _ _ _
   | exact spec_SwapPlace.mono _ _ _
   | exact LeO.none _
   | refine LeO.ite ?_ ?_
   | refine LeO.bind ?_ (fun _ => ?_)
set_option maxHeartbeats 8000000 in
set_option maxRecDepth 100000 in
theorem laws_FnExactSwapPlace.calls (k : Nat) (a0 : Int) (a1 : Int) (r : Bool) (w : World) (h : laws_FnExactSwapPlace.f k a0 a1 = some r) :
  Calls Try.prog 13 #[.int .i64 a0, .int .i64 a1] w fun e w' => e = .returned (.bool r) ∧ Below w.heap.size w w' := by
 have HB := Aside0.mk (Below.refl w.heap.size w)
 have H : ((spec_SwapPlace.f k a0 a1).bind fun bt146 => ((impl_SwapPlace.f k a0 a1).bind fun bt148 => (if bt148.1 = bt146.1 then (if (bt148.2 != bt146.2) = true then (some false) else (some true)) else (some false)))) = some r := h
 clear h
 replace H := Option.bind_eq_some_iff.mp H
 obtain ⟨⟨t146, t147⟩, A30, H⟩ := H
 replace H : ((impl_SwapPlace.f k a0 a1).bind fun bt148 => (if bt148.1 = t146 then (if (bt148.2 != t147) = true then (some false) else (some true)) else (some false))) = some r := H
 have A3 := Aside0.mk A30
 clear A30
 replace H := Option.bind_eq_some_iff.mp H
 obtain ⟨⟨t148, t149⟩, A40, H⟩ := H
 replace H : (if t148 = t146 then (if (t149 != t147) = true then (some false) else (some true)) else (some false)) = some r := H
 have A4 := Aside0.mk A40
 clear A40
 by_cases c5 : t148 = t146
 ·rw [if_pos c5] at H
  have c5b0 : (t148 == t146) = true := beq_iff_eq.mpr c5
  have c5b1 : (t148 != t146) = false := bne_eq_false_iff_eq.mpr c5
  clear c5
  by_cases c6 : (t149 != t147) = true
  ·rw [if_pos c6] at H
   have c6b0 : (t149 != t147) = true := c6
   (try (have c6b1 : decide (t149 = t147) = false := by simpa using c6))
   (try (have c6b2 : (t149 == t147) = false := by simpa using c6))
   (try (have c6b3 : ¬ (t149 = t147) := by simpa using c6))
   clear c6
   obtain rfl := Option.some.inj H
   go_enter Try.func13, Try.ntmps13
   go_wp2_with (first | ((with_reducible refine gate_callee (f := 39) rfl ?_); refine goesL_ (some 12) rfl rfl Try.func39 (by kernel_rfl) rfl #[.int .i64 a0, .int .i64 a1] rfl (by (try simp only [List.map_toArray, List.map_cons, List.map_nil]); first | done | rfl | (simp only [List.length_drop, List.length_take]; rfl)) ?_; (with_reducible refine (spec_SwapPlace.calls k a0 a1 t146 t147 _ A3.out).mono ?_); rintro e w7 ⟨rfl, hb⟩; refine ⟨_, rfl, ?_⟩; have n0_ := Aside0.mk (below_step (by repeat (first | (with_reducible first | exact HB.out | apply below_alloc | apply pw_below_drewN | apply below_drew1) | exact HB.out)) hb); clear HB; have HB := n0_; clear n0_; (try clear hb); (try clear hb2); (try clear hk); (try clear hi)) | ((with_reducible refine gate_callee (f := 40) rfl ?_); refine goesL_ (some 18) rfl rfl Try.func40 (by kernel_rfl) rfl #[.int .i64 a0, .int .i64 a1] rfl (by (try simp only [List.map_toArray, List.map_cons, List.map_nil]); first | done | rfl | (simp only [List.length_drop, List.length_take]; rfl)) ?_; (with_reducible refine (impl_SwapPlace.calls k a0 a1 t148 t149 _ A4.out).mono ?_); rintro e w8 ⟨rfl, hb⟩; refine ⟨_, rfl, ?_⟩; have n0_ := Aside0.mk (below_step (by repeat (first | (with_reducible first | exact HB.out | apply below_alloc | apply pw_below_drewN | apply below_drew1) | exact HB.out)) hb); clear HB; have HB := n0_; clear n0_; (try clear hb); (try clear hb2); (try clear hk); (try clear hi)))
   go_ret
   exact ⟨by first | rfl | (simp [errW_none, errW_some] <;> rfl) | (simp [*, errW_none, errW_some] <;> rfl), by repeat (first | (with_reducible first | exact HB.out | apply below_alloc | apply pw_below_drewN | apply below_drew1) | exact HB.out)⟩
  ·rw [if_neg c6] at H
   have c6b0 : (t149 != t147) = false := by simpa using c6
   (try (have c6b1 : decide (t149 = t147) = true := by simpa using c6))
   (try (have c6b2 : (t149 == t147) = true := by simpa using c6))
   clear c6
   obtain rfl := Option.some.inj H
   go_enter Try.func13, Try.ntmps13
   go_wp2_with (first | ((with_reducible refine gate_callee (f := 39) rfl ?_); refine goesL_ (some 12) rfl rfl Try.func39 (by kernel_rfl) rfl #[.int .i64 a0, .int .i64 a1] rfl (by (try simp only [List.map_toArray, List.map_cons, List.map_nil]); first | done | rfl | (simp only [List.length_drop, List.length_take]; rfl)) ?_; (with_reducible refine (spec_SwapPlace.calls k a0 a1 t146 t147 _ A3.out).mono ?_); rintro e w9 ⟨rfl, hb⟩; refine ⟨_, rfl, ?_⟩; have n0_ := Aside0.mk (below_step (by repeat (first | (with_reducible first | exact HB.out | apply below_alloc | apply pw_below_drewN | apply below_drew1) | exact HB.out)) hb); clear HB; have HB := n0_; clear n0_; (try clear hb); (try clear hb2); (try clear hk); (try clear hi)) | ((with_reducible refine gate_callee (f := 40) rfl ?_); refine goesL_ (some 18) rfl rfl Try.func40 (by kernel_rfl) rfl #[.int .i64 a0, .int .i64 a1] rfl (by (try simp only [List.map_toArray, List.map_cons, List.map_nil]); first | done | rfl | (simp only [List.length_drop, List.length_take]; rfl)) ?_; (with_reducible refine (impl_SwapPlace.calls k a0 a1 t148 t149 _ A4.out).mono ?_); rintro e w10 ⟨rfl, hb⟩; refine ⟨_, rfl, ?_⟩; have n0_ := Aside0.mk (below_step (by repeat (first | (with_reducible first | exact HB.out | apply below_alloc | apply pw_below_drewN | apply below_drew1) | exact HB.out)) hb); clear HB; have HB := n0_; clear n0_; (try clear hb); (try clear hb2); (try clear hk); (try clear hi)))
   go_ret
   exact ⟨by first | rfl | (simp [errW_none, errW_some] <;> rfl) | (simp [*, errW_none, errW_some] <;> rfl), by repeat (first | (with_reducible first | exact HB.out | apply below_alloc | apply pw_below_drewN | apply below_drew1) | exact HB.out)⟩
 ·rw [if_neg c5] at H
  have c5b0 : (t148 == t146) = false := beq_eq_false_iff_ne.mpr c5
  have c5b1 : (t148 != t146) = true := bne_iff_ne.mpr c5
  obtain rfl := Option.some.inj H
  go_enter Try.func13, Try.ntmps13
  go_wp2_with (first | ((with_reducible refine gate_callee (f := 39) rfl ?_); refine goesL_ (some 12) rfl rfl Try.func39 (by kernel_rfl) rfl #[.int .i64 a0, .int .i64 a1] rfl (by (try simp only [List.map_toArray, List.map_cons, List.map_nil]); first | done | rfl | (simp only [List.length_drop, List.length_take]; rfl)) ?_; (with_reducible refine (spec_SwapPlace.calls k a0 a1 t146 t147 _ A3.out).mono ?_); rintro e w11 ⟨rfl, hb⟩; refine ⟨_, rfl, ?_⟩; have n0_ := Aside0.mk (below_step (by repeat (first | (with_reducible first | exact HB.out | apply below_alloc | apply pw_below_drewN | apply below_drew1) | exact HB.out)) hb); clear HB; have HB := n0_; clear n0_; (try clear hb); (try clear hb2); (try clear hk); (try clear hi)) | ((with_reducible refine gate_callee (f := 40) rfl ?_); refine goesL_ (some 18) rfl rfl Try.func40 (by kernel_rfl) rfl #[.int .i64 a0, .int .i64 a1] rfl (by (try simp only [List.map_toArray, List.map_cons, List.map_nil]); first | done | rfl | (simp only [List.length_drop, List.length_take]; rfl)) ?_; (with_reducible refine (impl_SwapPlace.calls k a0 a1 t148 t149 _ A4.out).mono ?_); rintro e w12 ⟨rfl, hb⟩; refine ⟨_, rfl, ?_⟩; have n0_ := Aside0.mk (below_step (by repeat (first | (with_reducible first | exact HB.out | apply below_alloc | apply pw_below_drewN | apply below_drew1) | exact HB.out)) hb); clear HB; have HB := n0_; clear n0_; (try clear hb); (try clear hb2); (try clear hk); (try clear hi)))
  go_ret
  exact ⟨by first | rfl | (simp [errW_none, errW_some] <;> rfl) | (simp [*, errW_none, errW_some] <;> rfl), by repeat (first | (with_reducible first | exact HB.out | apply below_alloc | apply pw_below_drewN | apply below_drew1) | exact HB.out)⟩

/-- THE ONE PURE STATEMENT of laws_FnExactSwapPlace: yours. -/
def laws_FnExactSwapPlace.Pure : Prop := ∀ (a0 : Int) (a1 : Int), (Lit.int .i64 a0).wf = true → (Lit.int .i64 a1).wf = true → ∃ k, laws_FnExactSwapPlace.f k a0 a1 = some true
theorem laws_FnExactSwapPlace.walk (P : laws_FnExactSwapPlace.Pure) (a0 : Int) (a1 : Int) (w : World) (w0 : (Lit.int .i64 a0).wf = true) (w1 : (Lit.int .i64 a1).wf = true) :
  Calls Try.prog 13 #[.int .i64 a0, .int .i64 a1] w fun e w' => e = .returned (.bool true) ∧ Below w.heap.size w w' := by
 obtain ⟨k, h⟩ := P a0 a1 w0 w1
 refine (laws_FnExactSwapPlace.calls k a0 a1 true w h).mono ?_
 rintro e w' ⟨rfl, hd⟩
 exact ⟨rfl, hd⟩

end Go.Proofs.Ytomaodhlcacobaa.B
