-- written by a program of this session's over the kit's print (xp.py)
import Derived.Test.YtomaodhlcacobaaBx0
namespace Go.Proofs.Ytomaodhlcacobaa.B
open Go.RowKit Go.Proofs.YtomaodhlcacobaaW.PrintWords Go.Proofs.YtomaodhlcacobaaW.PrintLast Go.Proofs.YtomaodhlcacobaaW.PrintMore
attribute [local go_sem] max2_int min2_int max_two min_two max_three min_three max_four min_four   -- for this text's walks alone
set_option linter.unusedVariables false
set_option linter.unusedSimpArgs false

/-! ### spec_l1In: function 47 -/
def spec_l1In.f (a0 : Int) (a1 : Int) (a2 : Int) : Option (Bool) := if a0 ≥ a1 then (some (decide (a0 ≤ a2))) else (some false)
set_option maxHeartbeats 8000000 in
set_option maxRecDepth 100000 in
theorem spec_l1In.calls (a0 : Int) (a1 : Int) (a2 : Int) (r : Bool) (w : World) (h : spec_l1In.f a0 a1 a2 = some r) :
  Calls Try.prog 47 #[.int .i64 a0, .int .i64 a1, .int .i64 a2] w fun e w' => e = .returned (.bool r) ∧ Drawn0 w w' := by
 have H : (if a0 ≥ a1 then (some (decide (a0 ≤ a2))) else (some false)) = some r := h
 clear h
 by_cases c4 : a0 ≥ a1
 ·rw [if_pos c4] at H
  have c4b0 : decide (a1 ≤ a0) = true := decide_eq_true c4
  clear c4
  obtain rfl := Option.some.inj H
  go_enter Try.func47, Try.ntmps47
  go_wp2
  go_ret
  exact ⟨by first | rfl | (simp; done) | (simp [*]; done), by repeat (first | exact Drawn0.refl _ | apply Drawn0.step)⟩
 ·rw [if_neg c4] at H
  have c4b0 : decide (a1 ≤ a0) = false := decide_eq_false c4
  clear c4
  obtain rfl := Option.some.inj H
  go_enter Try.func47, Try.ntmps47
  go_wp2
  go_ret
  exact ⟨by first | rfl | (simp; done) | (simp [*]; done), by repeat (first | exact Drawn0.refl _ | apply Drawn0.step)⟩

/-! ### spec_nuLists: function 72 -/
def spec_nuLists.l0 : Nat → Int → Int → Int → Option (Int)
 | 0, _, _, _ => none
 | k + 1, x0, x3, x4 => if x4 ≤ x0 then (spec_nuLists.l0 k x0 (wrap64 (x3 * x4)) (wrap64 (x4 + 1))) else (some x3)
def spec_nuLists.f (k : Nat) (a0 : Int) : Option (Int) := spec_nuLists.l0 k a0 1 2
theorem spec_nuLists.mono_l : ∀ k, (∀ y0 y1 y2, LeO (spec_nuLists.l0 k y0 y1 y2) (spec_nuLists.l0 (k + 1) y0 y1 y2))
 | 0 => fun _ _ _ r h => by simp [spec_nuLists.l0] at h
 | k + 1 => by
  have ih0 := spec_nuLists.mono_l k
  ·intro y0 y1 y2
   unfold spec_nuLists.l0
   repeat' first
   | (with_reducible exact ih0 _ _ _)
   | (with_reducible exact LeO.refl _)
   | (with_reducible exact LeO.none _)
   | (with_reducible refine LeO.ite ?_ ?_)
   | (with_reducible refine LeO.bind ?_ (fun _ => ?_))
   | exact ih0 _ _ _
   | exact LeO.none _
   | refine LeO.ite ?_ ?_
   | refine LeO.bind ?_ (fun _ => ?_)
theorem spec_nuLists.mono : ∀ a0 k, LeO (spec_nuLists.f k a0) (spec_nuLists.f (k + 1) a0) := by
 intro a0 k
 have ih0 := spec_nuLists.mono_l k
 unfold spec_nuLists.f
 repeat' first
   | (with_reducible exact ih0 _ _ _)
   | (with_reducible exact LeO.refl _)
   | (with_reducible exact LeO.none _)
   | (with_reducible refine LeO.ite ?_ ?_)
   | (with_reducible refine LeO.bind ?_ (fun _ => ?_))
   | exact ih0 _ _ _
   | exact LeO.none _
   | refine LeO.ite ?_ ?_
   | refine LeO.bind ?_ (fun _ => ?_)
set_option maxHeartbeats 8000000 in
set_option maxRecDepth 100000 in
theorem spec_nuLists.calls (k : Nat) (a0 : Int) (r : Int) (w : World) (h : spec_nuLists.f k a0 = some r) :
  Calls Try.prog 72 #[.int .i64 a0] w fun e w' => e = .returned (.int .i64 r) ∧ Drawn0 w w' := by
 have H : (spec_nuLists.l0 k a0 1 2) = some r := h
 clear h
 have H' := Aside0.mk H
 clear H
 go_enter Try.func72, Try.ntmps72
 go_wp2
 go_loopg [3, 4] k (fun kq v3 v4 w' => ∃ (x3_1 : Int) (x4_1 : Int), v3 = .int .i64 x3_1 ∧ v4 = .int .i64 x4_1 ∧ Aside0 (spec_nuLists.l0 kq a0 x3_1 x4_1 = some r) ∧ Aside0 (kq ≤ k) ∧ Drawn0 w w')
 case atStart => exact ⟨(1), (2), (by first | rfl | (simp; done) | (simp [*]; done)), (by first | rfl | (simp; done) | (simp [*]; done)), H', ⟨Nat.le_refl _⟩, by repeat (first | exact Drawn0.refl _ | apply Drawn0.step)⟩
 case round =>
  clear H'
  obtain ⟨x3_1, x4_1, rfl, rfl, HA, HK1, ⟨m1, rfl⟩⟩ := hrel
  cases gk with
  | zero => exact absurd HA.out (by simp [spec_nuLists.l0])
  | succ k1 =>
   have H := HA.out
   clear HA
   simp only [spec_nuLists.l0] at H
   by_cases c2 : x4_1 ≤ a0
   ·rw [if_pos c2] at H
    have c2b0 : decide (x4_1 ≤ a0) = true := decide_eq_true c2
    clear c2
    have H' := Aside0.mk H
    clear H
    go_wp2
    go_roundg k1
    case measure => have := HK1.out; omega
    case rel => exact ⟨(wrap64 (x3_1 * x4_1)), (wrap64 (x4_1 + 1)), (by first | rfl | (simp; done) | (simp [*]; done)), (by first | rfl | (simp; done) | (simp [*]; done)), H', ⟨by have := HK1.out; omega⟩, by repeat (first | exact Drawn0.refl _ | apply Drawn0.step)⟩
   ·rw [if_neg c2] at H
    have c2b0 : decide (x4_1 ≤ a0) = false := decide_eq_false c2
    clear c2
    obtain rfl := Option.some.inj H
    go_wp2
    go_ret
    exact ⟨by first | rfl | (simp; done) | (simp [*]; done), by repeat (first | exact Drawn0.refl _ | apply Drawn0.step)⟩

/-! ### spec_l1Own: function 83 -/
def spec_l1Own.f (l0 : List Int) : Option (List Int) := (some (([] : List Int) : List Int)).bind fun y101 => (if y101.length + l0.length < 17592186044416 then (some (y101 ++ l0)) else (none))
set_option maxHeartbeats 8000000 in
set_option maxRecDepth 100000 in
theorem spec_l1Own.calls (A0 : Option Addr) (c0 : Nat) (l0 : List Int) (r : List Int) (w : World) (hr0 : Kd.C (Kd.int .i64) w A0 l0.length l0) (hc0 : l0.length ≤ c0) (h : spec_l1Own.f l0 = some r) :
  Calls Try.prog 83 #[.slice A0 l0.length c0] w fun e w' => ∃ v0_ : Value, e = .returned (v0_) ∧ Kd.R (Kd.int .i64) 3 w' w.heap.size (fun _ => True) v0_ r ∧ Below w.heap.size w w' := by
 have HR0 := Aside0.mk hr0
 have HC0 := Aside0.mk hc0
 clear hr0 hc0
 have HB := Aside0.mk (Below.refl w.heap.size w)
 have H : ((some (([] : List Int) : List Int)).bind fun y101 => (if y101.length + l0.length < 17592186044416 then (some (y101 ++ l0)) else (none))) = some r := h
 clear h
 obtain ⟨y101, hy101⟩ : ∃ y_ : List Int, y_ = (([] : List Int)) := ⟨_, rfl⟩
 replace H : (if y101.length + l0.length < 17592186044416 then (some (y101 ++ l0)) else (none)) = some r := by first | (rw [hy101]; with_reducible exact H) | (have H2_ := (Option.bind_some _ _).symm.trans H; rw [hy101]; with_reducible exact H2_) | (have H2_ := (Option.bind_some _ _).symm.trans H; with_reducible exact H2_) | with_reducible exact H | (rw [hy101]; exact H) | exact H
 have Ny101 := Aside0.mk hy101
 clear hy101
 by_cases c2 : y101.length + l0.length < 17592186044416
 ·rw [if_pos c2] at H
  have LMc2 := Aside0.mk c2
  clear c2
  obtain ⟨y104, hy104⟩ : ∃ y_ : List Int, y_ = (y101 ++ l0) := ⟨_, rfl⟩
  replace H : (some y104) = some r := by first | (rw [hy104]; with_reducible exact H) | (have H2_ := (Option.bind_some _ _).symm.trans H; rw [hy104]; with_reducible exact H2_) | (have H2_ := (Option.bind_some _ _).symm.trans H; with_reducible exact H2_) | with_reducible exact H | (rw [hy104]; exact H) | exact H
  have Ny104 := Aside0.mk hy104
  clear hy104
  obtain rfl := Option.some.inj H
  go_enter Try.func83, Try.ntmps83
  go_wp2_with (first | ((with_reducible refine gate_dst (N := 3) rfl ?_); refine Kd.R_lit (Kd.int .i64) _ 3 ?hg (N := 3) ?hd (xs := ([] : List Int)) (inner := []) (ok := fun _ => True) (okp := fun _ => True) ?hr ?hp (fun _ hk => hk) trivial (Below.refl _ _) (Nat.le_refl _) (by simp) ?_; (case hd => rfl); (case hg => rfl); (case hr => first | (go_simp; done) | (go_simp; rfl)); (case hp => exact (Reps.none _ _)); intro v102 w3 ho4 hb hg_ hnew_; clear hg_ hnew_; (first | rw [← Ny101.out] at ho4 | (simp only [Int.reduceToNat] at ho4; rw [← Ny101.out] at ho4)); have n0_ := Aside0.mk (Kd.R_lower ho4 (below_size (by repeat (first | (with_reducible first | exact HB.out | apply below_alloc | apply pw_below_drewN | apply below_drew1) | exact HB.out)))); have n1_ := Aside0.mk (below_step (by repeat (first | (with_reducible first | exact HB.out | apply below_alloc | apply pw_below_drewN | apply below_drew1) | exact HB.out)) hb); clear HB; have HO103 := n0_; have HB := n1_; clear n0_ n1_; clear hb ho4) | ((with_reducible refine gate_builtin (b := .append) (xs := #[.tmp 3, .tmp 4]) rfl ?_); at_builtin; refine Kd.R_append_rows (Kd.int .i64) (w0 := w) w.heap.size rfl (.tmp 3) (.tmp 4) 27 3 (.int .i64 0) 8 rfl Try.underlying27 info3 rfl (by decide) (by omega) v102 y101 l0 _ _ _ (fun _ => True) (fun _ => False) rfl rfl ?aO ?aR (fun _ _ h => h) (fun _ h => h.elim) ?aF ?aB ?aS ?aL ?_; (case aR => repeat (first | exact (Kd.C_below HR0.out HB.out) | (with_reducible refine Kd.C_alloc ?_ _) | (with_reducible refine Kd.C_drewN ?_ _) | (with_reducible refine Kd.C_drew ?_))); (case aB => exact (by repeat (first | (with_reducible first | exact HB.out | apply below_alloc | apply pw_below_drewN | apply below_drew1) | exact HB.out))); (case aF => exact (fun _ _ => trivial)); (case aO => exact (by (with_reducible repeat (first | apply Kd.R_alloc | apply Kd.R_drewN | apply Kd.R_drew)); exact HO103.out)); (case aS => exact (below_size (by repeat (first | (with_reducible first | exact HB.out | apply below_alloc | apply pw_below_drewN | apply below_drew1) | exact HB.out)))); (case aL => have := LMc2.out; omega); intro v105 w5 ho hb hg hat; rw [← Ny104.out] at ho; have n0_ := Aside0.mk (hb); have n1_ := Aside0.mk (ho); clear HB; clear HO103; have HB := n0_; have HO106 := n1_; clear n0_ n1_; clear ho hb hg hat))
  go_ret
  exact ⟨_, by first | rfl | (simp [errW_none, errW_some] <;> rfl) | (simp [*, errW_none, errW_some] <;> rfl), by (with_reducible repeat (first | apply Kd.R_alloc | apply Kd.R_drewN | apply Kd.R_drew)); exact HO106.out, by repeat (first | (with_reducible first | exact HB.out | apply below_alloc | apply pw_below_drewN | apply below_drew1) | exact HB.out)⟩
 ·rw [if_neg c2] at H
  exact absurd H (by simp)

/-! ### spec_nuSwapped -/
theorem app_ints {W : World} {base : Nat} {v : Value} {xs ys : List Int} {A : Option Addr} {m c : Nat} (ty : TypeId) (HO : Kd.R (Kd.int .i64) 3 W base (fun _ => True) v xs) (HR : Kd.C (Kd.int .i64) W A m ys) (hbase : base ≤ W.heap.size) (hl : xs.length + m < 17592186044416) :
  ∃ v1 w1, (Builtin.append_ #[27, 27] ty #[v, .slice A m c]).run Try.prog W = .ok v1 w1 ∧ Kd.R (Kd.int .i64) 3 w1 base (fun _ => True) v1 (xs ++ ys) ∧ W.grownBy w1 v.ownBlock := by
 obtain ⟨i0, hi, hz0, hz1, hz2⟩ := info_parts info3
 have hR := Kd.reads_of_C (enc := Value.int .i64) (d := (0 : Int)) (h1 := fun _ => rfl) HR
 have hm : ys.length = m := hR.1
 have hown := Kd.own_of_R HO
 have ht := Try.underlying27
 rcases A with _ | ad
 ·have h0 : m = 0 := by
   rcases Nat.eq_zero_or_pos m with h0 | h0
   ·exact h0
   ·obtain ⟨ad, h, _⟩ := hR.2.2 h0
    cases h
  subst h0
  obtain rfl : ys = [] := List.eq_nil_of_length_eq_zero hm
  refine ⟨v, W, ?_, by rw [List.append_nil]; exact HO, World.grownBy.refl W _⟩
  rcases hown.2 with ⟨rfl, hn⟩ | ⟨g, cap, cur, rfl, _, _, hnc, _⟩
  ·simp [Builtin.append_, run_underlying ht, sizeOf, typeInfo, hi, Builtin.lenOf, Builtin.firstCells]
  ·simp [Builtin.append_, run_underlying ht, sizeOf, typeInfo, hi, Builtin.lenOf, Builtin.firstCells, hnc, storeCells]
 ·have hnc : ∀ j u, (encs (Value.int .i64) ys)[j]? = some u → W.cell? (ad.add j) = some u := by
   intro j u hu
   have hj : j < ys.length := by
    rcases Nat.lt_or_ge j ys.length with h | h
    ·exact h
    ·rw [List.getElem?_eq_none (by rw [encs_length]; exact h)] at hu
     cases hu
   obtain ⟨ad', e, hc⟩ := hR.2.2 (by omega)
   obtain rfl := Option.some.inj e
   rw [encs_get (d := (0 : Int)) _ j hj] at hu
   rw [hc j (by omega), ← hu]
  obtain ⟨v1, w1, hrun, h2, hg, _, hat⟩ := run_append_own_at (P := Try.prog) W base 27 ty 3 i0 (.int .i64 0) 1 8 ht hi hz0 hz1 hz2 rfl (by decide) v xs.length (encs (Value.int .i64) xs) hown ad m c (encs (Value.int .i64) ys) (by rw [encs_length, hm, Nat.mul_one]) hnc (by intro u hu; simp only [encs, List.mem_map] at hu; obtain ⟨q, _, rfl⟩ := hu; rfl) (by simp only [maxLen]; omega) (by omega) hbase
  refine ⟨v1, w1, hrun, Kd.R_of_own ?_ (fun _ _ => trivial), hg⟩
  rw [encs_append, List.length_append, hm]
  exact h2
theorem step_append_runI {P : Program} {ops : Array Oper} {o : Oper} {a : Act} {w : World} {K : Act → World → Prop} {Q : Exit → Act → World → Prop} {E : Prop}
  (hg : o.guard = none) (d x : Operand) (dT sT : TypeId) (hop : o.op = Op.call { callee := Callee.builtin Builtin.append, args := #[d, x], argTypes := #[dT, sT] })
  (v u : Value) (hd : a.eval d = v) (hx : a.eval x = u) {v' : Value} {w' : World} (hr : (Builtin.append_ #[dT, sT] o.type #[v, u]).run P w = .ok v' w') (hK : K (a.put o.dst v') w') :
  if Region.wanted o (yielded ops a.tmps) = true then Oper.wp P o a w K Q else E := by
 have hw : Region.wanted o (yielded ops a.tmps) = true := by simp [Region.wanted, hg]
 rw [if_pos hw]
 unfold Oper.wp
 simp [execOp, hop, resolve, invoke, builtin, hd, hx, hr, Result.andThen]
 exact hK
theorem l1Own_some {l : List Int} (h : l.length < 17592186044416) : spec_l1Own.f l = some l := by
 unfold spec_l1Own.f
 rw [Option.bind_some, if_pos (by simpa using h), List.nil_append]
/-- the place of the greatest in a list of the order by swaps -/
def swAt (a0 a1 : Int) : Int := if Int.tmod (wrap64 (Int.tdiv a1 a0)) 2 = 0 then wrap64 (wrap64 (a0 - 1) - Int.tmod a1 a0) else Int.tmod a1 a0
def spec_nuSwapped.f : Nat → Int → Int → Option (List Int)
 | 0, _, _ => none
 | k + 1, a0, a1 => if a0 = 0 then some [] else (spec_nuSwapped.f k (wrap64 (a0 - 1)) (wrap64 (Int.tdiv a1 a0))).bind fun l => if 0 ≤ swAt a0 a1 then (if swAt a0 a1 ≤ (l.length : Int) then (if l.length < 17592186044000 then some ((l.take (swAt a0 a1).toNat ++ [wrap64 (a0 - 1)]) ++ l.drop (swAt a0 a1).toNat) else none) else none) else none
theorem spec_nuSwapped.mono : ∀ a0 a1 k, LeO (spec_nuSwapped.f k a0 a1) (spec_nuSwapped.f (k + 1) a0 a1)
 | a0, a1, 0 => fun r h => by simp [spec_nuSwapped.f] at h
 | a0, a1, k + 1 => by
  rw [spec_nuSwapped.f, spec_nuSwapped.f]
  repeat' first
   | (with_reducible exact spec_nuSwapped.mono _ _ k)
   | (with_reducible exact LeO.refl _)
   | (with_reducible exact LeO.none _)
   | (with_reducible refine LeO.ite ?_ ?_)
   | (with_reducible refine LeO.bind ?_ (fun _ => ?_))
theorem lit_C (W : World) (x : Int) : Kd.C (Kd.int .i64) (W.alloc (.cells #[.int .i64 x] 3)) (some ⟨W.heap.size, 0, none⟩) 1 [x] := by
 have h : ReadsOf (Value.int .i64) (0 : Int) (W.alloc (.cells #[.int .i64 x] 3)) (some ⟨W.heap.size, 0, none⟩) 1 [x] := by
  refine ⟨rfl, by omega, fun _ => ⟨_, rfl, fun j hj => ?_⟩⟩
  obtain rfl : j = 0 := by omega
  rw [add_plain, cell_of_row _ _ _ _ _ _ (heap_alloc_new W _)]
  rfl
 exact Kd.C_of_reads h
set_option maxHeartbeats 8000000 in
set_option maxRecDepth 100000 in
theorem spec_nuSwapped.calls : ∀ (k : Nat) (a0 a1 : Int) (r : List Int) (w : World) (h : spec_nuSwapped.f k a0 a1 = some r),
  Calls Try.prog 73 #[.int .i64 a0, .int .i64 a1] w fun e w' => ∃ v0_ : Value, e = .returned v0_ ∧ Kd.R (Kd.int .i64) 3 w' w.heap.size (fun _ => True) v0_ r ∧ Below w.heap.size w w'
 | 0, _, _, _, _, h => by simp [spec_nuSwapped.f] at h
 | k + 1, a0, a1, r, w, h => by
  have IH := Aside0.mk (spec_nuSwapped.calls k)
  rw [spec_nuSwapped.f] at h
  by_cases c1 : a0 = 0
  ·rw [if_pos c1] at h
   obtain rfl := Option.some.inj h
   have c1b : (a0 == 0) = true := by simp [c1]
   go_enter Try.func73, Try.ntmps73
   go_wp2
   go_ret
   exact ⟨_, rfl, Kd.R_nil _ _ _ _ _, by repeat (first | exact Below.refl _ w | apply pw_below_drewN | apply below_drew1)⟩
  ·rw [if_neg c1] at h
   have c1b : (a0 == 0) = false := beq_eq_false_iff_ne.mpr c1
   have c1c : (a0 != 0) = true := bne_iff_ne.mpr c1
   obtain ⟨l, A1, H⟩ := Option.bind_eq_some_iff.mp h
   clear h
   have HP : Aside0 (∃ p : Nat, swAt a0 a1 = (p : Int) ∧ p ≤ l.length ∧ l.length < 17592186044000 ∧ (l.take p ++ [wrap64 (a0 - 1)]) ++ l.drop p = r) := by
    by_cases c2 : 0 ≤ swAt a0 a1
    ·rw [if_pos c2] at H
     by_cases c3 : swAt a0 a1 ≤ (l.length : Int)
     ·rw [if_pos c3] at H
      by_cases c4 : l.length < 17592186044000
      ·rw [if_pos c4] at H
       obtain ⟨p, hp⟩ := Int.eq_ofNat_of_zero_le c2
       rw [hp] at H c3
       rw [Int.toNat_natCast] at H
       exact ⟨p, hp, by omega, c4, Option.some.inj H⟩
      ·rw [if_neg c4] at H; cases H
     ·rw [if_neg c3] at H; cases H
    ·rw [if_neg c2] at H; cases H
   clear H
   obtain ⟨p, hp, h1, h2, rfl⟩ := HP.out
   clear HP
   have HPL := Aside0.mk h1
   have HLL := Aside0.mk h2
   have HA1 := Aside0.mk A1
   clear h1 h2 A1
   have HREG : ∀ (v1 : Value) (w1 : World), Kd.R (Kd.int .i64) 3 w1 w.heap.size (fun _ => True) v1 l → Below w.heap.size w w1 → True := fun _ _ _ _ => trivial
   clear HREG
   unfold swAt at hp
   by_cases c5 : Int.tmod (wrap64 (Int.tdiv a1 a0)) 2 = 0
   ·rw [if_pos c5] at hp
    have c5b0 : (Int.tmod (wrap64 (Int.tdiv a1 a0)) 2 == 0) = true := beq_iff_eq.mpr c5
    clear c5
    go_enter Try.func73, Try.ntmps73
    go_wp2_with (first | (go_at_call 73; (with_reducible refine (IH.out _ _ l _ HA1.out).mono ?_); rintro e w1 ⟨v1, rfl, hR1, hb1⟩; obtain ⟨A, c, rfl, hc, hC⟩ := Kd.R_reads hR1; have HR1 := Aside0.mk hR1; have HB := Aside0.mk hb1; have HC := Aside0.mk hC; have HCC := Aside0.mk hc; clear hR1 hb1 hC hc))
    obtain ⟨i0, hi0, _, hsz0, _⟩ := info_parts info3
    obtain ⟨q1, q2, q3⟩ := print_take_of (P := Try.prog) (Value.int .i64) 0 27 3 .i64 Try.underlying27 hi0 hsz0 A c l (p : Int) (by omega) (by have := HPL.out; omega) HCC.out
    obtain ⟨A', d1, d2, d3⟩ := print_drop_of (P := Try.prog) (Value.int .i64) 0 27 3 .i64 Try.underlying27 hi0 hsz0 A c l (p : Int) (by omega) (by have := HPL.out; omega) HCC.out
    rw [Int.toNat_natCast] at q1 q2 q3 d1 d2 d3
    have hlt : (l.take p).length = p := by rw [List.length_take]; have := HPL.out; omega
    have hld : (l.drop p).length = l.length - p := List.length_drop
    have HT := Kd.C_of_reads (h1 := fun _ => rfl) (q2 _ (Kd.reads_of_C HC.out))
    have HD := Kd.C_of_reads (h1 := fun _ => rfl) (d2 _ (Kd.reads_of_C HC.out))
    have HL1 : (l.take p).length + 1 < 17592186044416 := by rw [List.length_take]; have := HLL.out; omega
    have HL2 : (l.take p ++ [IntKind.i64.wrap (a0 - 1)]).length + (l.length - p) < 17592186044416 := by rw [List.length_append, List.length_take, List.length_singleton]; have := HLL.out; have := HPL.out; omega
    have HCALL : ∀ W, Below w1.heap.size w1 W → Calls Try.prog 83 #[.slice A p c] W fun e w' => ∃ v0_ : Value, e = .returned (v0_) ∧ Aside0 (Kd.R (Kd.int .i64) 3 w' w1.heap.size (fun _ => True) v0_ (l.take p)) ∧ Aside0 (Below w1.heap.size w1 w') ∧ Aside0 (Below W.heap.size W w') := by
     intro W hW
     have h := spec_l1Own.calls A c (l.take p) (l.take p) W (Kd.C_below HT hW) q3 (l1Own_some (by omega))
     rw [hlt] at h
     refine h.mono ?_
     rintro e w' ⟨v, rfl, h1, h2⟩
     exact ⟨v, rfl, ⟨Kd.R_lower h1 hW.size⟩, ⟨below_step hW h2⟩, ⟨h2⟩⟩
    rw [hld] at HD d1
    rw [hlt] at q1
    have HCALL := Aside0.mk HCALL
    have HD := Aside0.mk HD
    have HL1 := Aside0.mk HL1
    have HL2 := Aside0.mk HL2
    clear q2 q3 d2 d3 hi0 hsz0 hlt hld HT
    go_region_law (first
     | (refine goes_ Try.func83 (by kernel_rfl) rfl #[.slice A p c] (by simp [Region.wanted]) rfl rfl (by simp [Act.eval, Act.put]) ?_; refine (HCALL.out _ (by repeat (first | exact Below.refl _ w1 | apply below_alloc | apply pw_below_drewN | apply below_drew1))).mono ?_; rintro e w2 ⟨v2, rfl, HR2, HB2, Hb2⟩; refine ⟨_, rfl, ?_⟩)
     | (obtain ⟨v5, w5, hrun5, hR5, hg5⟩ := app_ints (W := w2.alloc (.cells #[.int .i64 (IntKind.i64.wrap (a0 - 1))] 3)) (base := w1.heap.size) (c := 1) 27 (Kd.R_alloc HR2.out _) (lit_C w2 (IntKind.i64.wrap (a0 - 1))) (by have := HB2.out.size; simp; omega) HL1.out; refine step_append_runI rfl (.tmp 30) (.tmp 33) 27 27 rfl v2 (.slice (some ⟨w2.heap.size, 0, none⟩) 1 1) (by simp [Act.put, Act.eval]) (by simp [Act.put, Act.eval]) hrun5 ?_; have HR5 := Aside0.mk hR5; have HB5 := Aside0.mk ((HB2.out.alloc HB2.out.size _).grown hg5 (by have := HB2.out.size; simp; omega) (own_base (Kd.own_of_R HR2.out))); clear hR5 hg5 hrun5)
     | (obtain ⟨v5, w5, hrun5, hR5, hg5⟩ := app_ints (W := w2) (base := w1.heap.size) (c := 1) 27 HR2.out (Kd.C_below (lit_C w1.drew (IntKind.i64.wrap (a0 - 1))) Hb2.out) HB2.out.size HL1.out; refine step_append_runI rfl (.tmp 30) (.tmp 33) 27 27 rfl v2 (.slice (some ⟨w1.heap.size, 0, none⟩) 1 1) (by simp [Act.put, Act.eval]) (by simp [Act.put, Act.eval]) hrun5 ?_; have HR5 := Aside0.mk hR5; have HB5 := Aside0.mk (HB2.out.grown hg5 HB2.out.size (own_base (Kd.own_of_R HR2.out))); clear hR5 hg5 hrun5)
     | (obtain ⟨v6, w6, hrun6, hR6, hg6⟩ := app_ints (W := w5) (base := w1.heap.size) (c := c - p) 27 HR5.out (Kd.C_below HD.out HB5.out) HB5.out.size HL2.out; refine step_append_runI rfl (.tmp 34) (.tmp 37) 27 27 rfl v5 (.slice A' (l.length - p) (c - p)) (by simp [Act.put, Act.eval]) (by simp [Act.put, Act.eval]) hrun6 ?_; have HR6 := Aside0.mk hR6; have HB6 := Aside0.mk (HB5.out.grown hg6 HB5.out.size (own_base (Kd.own_of_R HR5.out))); clear hR6 hg6 hrun6))
    all_goals go_wp2
    all_goals go_ret
    all_goals (rw [← i64_w]; exact ⟨_, rfl, Kd.R_lower HR6.out HB.out.size, below_step HB.out HB6.out⟩)
   ·rw [if_neg c5] at hp
    have c5b0 : (Int.tmod (wrap64 (Int.tdiv a1 a0)) 2 == 0) = false := beq_eq_false_iff_ne.mpr c5
    clear c5
    go_enter Try.func73, Try.ntmps73
    go_wp2_with (first | (go_at_call 73; (with_reducible refine (IH.out _ _ l _ HA1.out).mono ?_); rintro e w1 ⟨v1, rfl, hR1, hb1⟩; obtain ⟨A, c, rfl, hc, hC⟩ := Kd.R_reads hR1; have HR1 := Aside0.mk hR1; have HB := Aside0.mk hb1; have HC := Aside0.mk hC; have HCC := Aside0.mk hc; clear hR1 hb1 hC hc))
    obtain ⟨i0, hi0, _, hsz0, _⟩ := info_parts info3
    obtain ⟨q1, q2, q3⟩ := print_take_of (P := Try.prog) (Value.int .i64) 0 27 3 .i64 Try.underlying27 hi0 hsz0 A c l (p : Int) (by omega) (by have := HPL.out; omega) HCC.out
    obtain ⟨A', d1, d2, d3⟩ := print_drop_of (P := Try.prog) (Value.int .i64) 0 27 3 .i64 Try.underlying27 hi0 hsz0 A c l (p : Int) (by omega) (by have := HPL.out; omega) HCC.out
    rw [Int.toNat_natCast] at q1 q2 q3 d1 d2 d3
    have hlt : (l.take p).length = p := by rw [List.length_take]; have := HPL.out; omega
    have hld : (l.drop p).length = l.length - p := List.length_drop
    have HT := Kd.C_of_reads (h1 := fun _ => rfl) (q2 _ (Kd.reads_of_C HC.out))
    have HD := Kd.C_of_reads (h1 := fun _ => rfl) (d2 _ (Kd.reads_of_C HC.out))
    have HL1 : (l.take p).length + 1 < 17592186044416 := by rw [List.length_take]; have := HLL.out; omega
    have HL2 : (l.take p ++ [IntKind.i64.wrap (a0 - 1)]).length + (l.length - p) < 17592186044416 := by rw [List.length_append, List.length_take, List.length_singleton]; have := HLL.out; have := HPL.out; omega
    have HCALL : ∀ W, Below w1.heap.size w1 W → Calls Try.prog 83 #[.slice A p c] W fun e w' => ∃ v0_ : Value, e = .returned (v0_) ∧ Aside0 (Kd.R (Kd.int .i64) 3 w' w1.heap.size (fun _ => True) v0_ (l.take p)) ∧ Aside0 (Below w1.heap.size w1 w') ∧ Aside0 (Below W.heap.size W w') := by
     intro W hW
     have h := spec_l1Own.calls A c (l.take p) (l.take p) W (Kd.C_below HT hW) q3 (l1Own_some (by omega))
     rw [hlt] at h
     refine h.mono ?_
     rintro e w' ⟨v, rfl, h1, h2⟩
     exact ⟨v, rfl, ⟨Kd.R_lower h1 hW.size⟩, ⟨below_step hW h2⟩, ⟨h2⟩⟩
    rw [hld] at HD d1
    rw [hlt] at q1
    have HCALL := Aside0.mk HCALL
    have HD := Aside0.mk HD
    have HL1 := Aside0.mk HL1
    have HL2 := Aside0.mk HL2
    clear q2 q3 d2 d3 hi0 hsz0 hlt hld HT
    go_region_law (first
     | (refine goes_ Try.func83 (by kernel_rfl) rfl #[.slice A p c] (by simp [Region.wanted]) rfl rfl (by simp [Act.eval, Act.put]) ?_; refine (HCALL.out _ (by repeat (first | exact Below.refl _ w1 | apply below_alloc | apply pw_below_drewN | apply below_drew1))).mono ?_; rintro e w2 ⟨v2, rfl, HR2, HB2, Hb2⟩; refine ⟨_, rfl, ?_⟩)
     | (obtain ⟨v5, w5, hrun5, hR5, hg5⟩ := app_ints (W := w2.alloc (.cells #[.int .i64 (IntKind.i64.wrap (a0 - 1))] 3)) (base := w1.heap.size) (c := 1) 27 (Kd.R_alloc HR2.out _) (lit_C w2 (IntKind.i64.wrap (a0 - 1))) (by have := HB2.out.size; simp; omega) HL1.out; refine step_append_runI rfl (.tmp 30) (.tmp 33) 27 27 rfl v2 (.slice (some ⟨w2.heap.size, 0, none⟩) 1 1) (by simp [Act.put, Act.eval]) (by simp [Act.put, Act.eval]) hrun5 ?_; have HR5 := Aside0.mk hR5; have HB5 := Aside0.mk ((HB2.out.alloc HB2.out.size _).grown hg5 (by have := HB2.out.size; simp; omega) (own_base (Kd.own_of_R HR2.out))); clear hR5 hg5 hrun5)
     | (obtain ⟨v5, w5, hrun5, hR5, hg5⟩ := app_ints (W := w2) (base := w1.heap.size) (c := 1) 27 HR2.out (Kd.C_below (lit_C w1.drew (IntKind.i64.wrap (a0 - 1))) Hb2.out) HB2.out.size HL1.out; refine step_append_runI rfl (.tmp 30) (.tmp 33) 27 27 rfl v2 (.slice (some ⟨w1.heap.size, 0, none⟩) 1 1) (by simp [Act.put, Act.eval]) (by simp [Act.put, Act.eval]) hrun5 ?_; have HR5 := Aside0.mk hR5; have HB5 := Aside0.mk (HB2.out.grown hg5 HB2.out.size (own_base (Kd.own_of_R HR2.out))); clear hR5 hg5 hrun5)
     | (obtain ⟨v6, w6, hrun6, hR6, hg6⟩ := app_ints (W := w5) (base := w1.heap.size) (c := c - p) 27 HR5.out (Kd.C_below HD.out HB5.out) HB5.out.size HL2.out; refine step_append_runI rfl (.tmp 34) (.tmp 37) 27 27 rfl v5 (.slice A' (l.length - p) (c - p)) (by simp [Act.put, Act.eval]) (by simp [Act.put, Act.eval]) hrun6 ?_; have HR6 := Aside0.mk hR6; have HB6 := Aside0.mk (HB5.out.grown hg6 HB5.out.size (own_base (Kd.own_of_R HR5.out))); clear hR6 hg6 hrun6))
    all_goals go_wp2
    all_goals go_ret
    all_goals (rw [← i64_w]; exact ⟨_, rfl, Kd.R_lower HR6.out HB.out.size, below_step HB.out HB6.out⟩)

/-! ### spec_SwapPlace: function 39 -/
mutual
def spec_SwapPlace.j0 : Nat → Int → Int → Bool → Option (Int × Bool)
 | 0, _, _, _ => none
 | k + 1, x0, x1, x19 => if x19 = true then (some (0, false)) else ((spec_nuSwapped.f k x0 x1).bind fun t110 => ((spec_nuSwapped.f k x0 (wrap64 (x1 + 1))).bind fun t113 => (spec_SwapPlace.l0 k t110 t113 (t110.length : Int) 0)))
def spec_SwapPlace.l0 : Nat → List Int → List Int → Int → Int → Option (Int × Bool)
 | 0, _, _, _, _ => none
 | k + 1, x6, x7, x28, x29 => if x29 < x28 then (if 0 ≤ x29 then (if x29 < (x6.length : Int) then (if x29 < (x7.length : Int) then (if (rd x6 x29) = (rd x7 x29) then (spec_SwapPlace.l0 k x6 x7 x28 (wrap64 (x29 + 1))) else (some (x29, true))) else (none)) else (none)) else (none)) else (some (0, false))
end
def spec_SwapPlace.f (k : Nat) (a0 : Int) (a1 : Int) : Option (Int × Bool) := (spec_l1In.f a0 1 10).bind fun t107 => (if t107 = true then ((spec_nuLists.f k a0).bind fun t108 => ((spec_l1In.f a1 0 (wrap64 (t108 - 2))).bind fun t109 => (spec_SwapPlace.j0 k a0 a1 (!t109)))) else (spec_SwapPlace.j0 k a0 a1 true))
theorem spec_SwapPlace.mono_l : ∀ k, (∀ y0 y1 y2, LeO (spec_SwapPlace.j0 k y0 y1 y2) (spec_SwapPlace.j0 (k + 1) y0 y1 y2)) ∧ (∀ y0 y1 y2 y3, LeO (spec_SwapPlace.l0 k y0 y1 y2 y3) (spec_SwapPlace.l0 (k + 1) y0 y1 y2 y3))
 | 0 => ⟨fun _ _ _ r h => by simp [spec_SwapPlace.j0] at h, fun _ _ _ _ r h => by simp [spec_SwapPlace.l0] at h⟩
 | k + 1 => by
  obtain ⟨ih0, ih1⟩ := spec_SwapPlace.mono_l k
  refine ⟨?_, ?_⟩
  ·intro y0 y1 y2
   unfold spec_SwapPlace.j0
   repeat' first
   | (with_reducible exact ih0 _ _ _)
   | (with_reducible exact ih1 _ _ _ _)
   | (with_reducible exact spec_nuLists.mono _ _)
   | (with_reducible exact spec_nuSwapped.mono _ _ _)
   | (with_reducible exact LeO.refl _)
   | (with_reducible exact LeO.none _)
   | (with_reducible refine LeO.ite ?_ ?_)
   | (with_reducible refine LeO.bind ?_ (fun _ => ?_))
   | exact ih0 _ _ _
   | exact ih1 _ _ _ _
   | exact spec_nuLists.mono _ _
   | exact spec_nuSwapped.mono _ _ _
   | exact LeO.none _
   | refine LeO.ite ?_ ?_
   | refine LeO.bind ?_ (fun _ => ?_)
  ·intro y0 y1 y2 y3
   unfold spec_SwapPlace.l0
   repeat' first
   | (with_reducible exact ih0 _ _ _)
   | (with_reducible exact ih1 _ _ _ _)
   | (with_reducible exact spec_nuLists.mono _ _)
   | (with_reducible exact spec_nuSwapped.mono _ _ _)
   | (with_reducible exact LeO.refl _)
   | (with_reducible exact LeO.none _)
   | (with_reducible refine LeO.ite ?_ ?_)
   | (with_reducible refine LeO.bind ?_ (fun _ => ?_))
   | exact ih0 _ _ _
   | exact ih1 _ _ _ _
   | exact spec_nuLists.mono _ _
   | exact spec_nuSwapped.mono _ _ _
   | exact LeO.none _
   | refine LeO.ite ?_ ?_
   | refine LeO.bind ?_ (fun _ => ?_)
theorem spec_SwapPlace.mono : ∀ a0 a1 k, LeO (spec_SwapPlace.f k a0 a1) (spec_SwapPlace.f (k + 1) a0 a1) := by
 intro a0 a1 k
 obtain ⟨ih0, ih1⟩ := spec_SwapPlace.mono_l k
 unfold spec_SwapPlace.f
 repeat' first
   | (with_reducible exact ih0 _ _ _)
   | (with_reducible exact ih1 _ _ _ _)
   | (with_reducible exact spec_nuLists.mono _ _)
   | (with_reducible exact spec_nuSwapped.mono _ _ _)
   | (with_reducible exact LeO.refl _)
   | (with_reducible exact LeO.none _)
   | (with_reducible refine LeO.ite ?_ ?_)
   | (with_reducible refine LeO.bind ?_ (fun _ => ?_))
   | exact ih0 _ _ _
   | exact ih1 _ _ _ _
   | exact spec_nuLists.mono _ _
   | exact spec_nuSwapped.mono _ _ _
   | exact LeO.none _
   | refine LeO.ite ?_ ?_
   | refine LeO.bind ?_ (fun _ => ?_)
set_option maxHeartbeats 8000000 in
set_option maxRecDepth 100000 in
theorem spec_SwapPlace.calls (k : Nat) (a0 : Int) (a1 : Int) (r1 : Int) (r2 : Bool) (w : World) (h : spec_SwapPlace.f k a0 a1 = some (r1, r2)) :
  Calls Try.prog 39 #[.int .i64 a0, .int .i64 a1] w fun e w' => e = .returned (.tuple #[.int .i64 r1, .bool r2]) ∧ Below w.heap.size w w' := by
 have HB := Aside0.mk (Below.refl w.heap.size w)
 have H : ((spec_l1In.f a0 1 10).bind fun t107 => (if t107 = true then ((spec_nuLists.f k a0).bind fun t108 => ((spec_l1In.f a1 0 (wrap64 (t108 - 2))).bind fun t109 => (spec_SwapPlace.j0 k a0 a1 (!t109)))) else (spec_SwapPlace.j0 k a0 a1 true))) = some (r1, r2) := h
 clear h
 have HC3 := Aside0.mk H
 clear H
 go_enter Try.func39, Try.ntmps39
 go_upto_region 1 with (fail)
 repeat (go_quiet (fail); go_upto_region 1 with (fail))
 go_cut [19] (fun v19 wc => ∃ (kq : Nat) (x19_2 : Bool), v19 = .bool x19_2 ∧ Aside0 (spec_SwapPlace.j0 kq a0 a1 x19_2 = some (r1, r2)) ∧ Aside0 (kq ≤ k) ∧ Aside0 (Below w.heap.size w wc))
 case first =>
  have H := HC3.out
  clear HC3
  replace H := Option.bind_eq_some_iff.mp H
  obtain ⟨t107, A40, H⟩ := H
  replace H : (if t107 = true then ((spec_nuLists.f k a0).bind fun t108 => ((spec_l1In.f a1 0 (wrap64 (t108 - 2))).bind fun t109 => (spec_SwapPlace.j0 k a0 a1 (!t109)))) else (spec_SwapPlace.j0 k a0 a1 true)) = some (r1, r2) := H
  have A4 := Aside0.mk A40
  clear A40
  by_cases c5 : t107 = true
  ·subst c5
   have H1 : ((spec_nuLists.f k a0).bind fun t108 => ((spec_l1In.f a1 0 (wrap64 (t108 - 2))).bind fun t109 => (spec_SwapPlace.j0 k a0 a1 (!t109)))) = some (r1, r2) := by rw [if_pos rfl] at H; exact H
   clear H
   have H := H1
   clear H1
   replace H := Option.bind_eq_some_iff.mp H
   obtain ⟨t108, A60, H⟩ := H
   replace H : ((spec_l1In.f a1 0 (wrap64 (t108 - 2))).bind fun t109 => (spec_SwapPlace.j0 k a0 a1 (!t109))) = some (r1, r2) := H
   have A6 := Aside0.mk A60
   clear A60
   replace H := Option.bind_eq_some_iff.mp H
   obtain ⟨t109, A70, H⟩ := H
   replace H : (spec_SwapPlace.j0 k a0 a1 (!t109)) = some (r1, r2) := H
   have A7 := Aside0.mk A70
   clear A70
   have H' := Aside0.mk H
   clear H
   go_wp2_with (first | (go_at_call 47; (with_reducible refine (spec_l1In.calls a0 1 10 true _ A4.out).mono ?_); rintro e w' ⟨rfl, ⟨nd, rfl⟩⟩; (try first | exact ⟨rfl, _, World.drewN_drewN _ _ _⟩ | exact ⟨rfl, _, Eq.trans (World.drewN_drewN _ _ _) (congrArg (World.drewN _) (Nat.add_assoc _ _ _))⟩)) | (go_at_call 72; (with_reducible refine (spec_nuLists.calls k a0 t108 _ A6.out).mono ?_); rintro e w' ⟨rfl, ⟨nd, rfl⟩⟩; (try first | exact ⟨rfl, _, World.drewN_drewN _ _ _⟩ | exact ⟨rfl, _, Eq.trans (World.drewN_drewN _ _ _) (congrArg (World.drewN _) (Nat.add_assoc _ _ _))⟩)) | (go_at_call 47; (with_reducible refine (spec_l1In.calls a1 0 (wrap64 (t108 - 2)) t109 _ A7.out).mono ?_); rintro e w' ⟨rfl, ⟨nd, rfl⟩⟩; (try first | exact ⟨rfl, _, World.drewN_drewN _ _ _⟩ | exact ⟨rfl, _, Eq.trans (World.drewN_drewN _ _ _) (congrArg (World.drewN _) (Nat.add_assoc _ _ _))⟩)))
   repeat (go_quiet (first | (go_at_call 47; (with_reducible refine (spec_l1In.calls a0 1 10 true _ A4.out).mono ?_); rintro e w' ⟨rfl, ⟨nd, rfl⟩⟩; (try first | exact ⟨rfl, _, World.drewN_drewN _ _ _⟩ | exact ⟨rfl, _, Eq.trans (World.drewN_drewN _ _ _) (congrArg (World.drewN _) (Nat.add_assoc _ _ _))⟩)) | (go_at_call 72; (with_reducible refine (spec_nuLists.calls k a0 t108 _ A6.out).mono ?_); rintro e w' ⟨rfl, ⟨nd, rfl⟩⟩; (try first | exact ⟨rfl, _, World.drewN_drewN _ _ _⟩ | exact ⟨rfl, _, Eq.trans (World.drewN_drewN _ _ _) (congrArg (World.drewN _) (Nat.add_assoc _ _ _))⟩)) | (go_at_call 47; (with_reducible refine (spec_l1In.calls a1 0 (wrap64 (t108 - 2)) t109 _ A7.out).mono ?_); rintro e w' ⟨rfl, ⟨nd, rfl⟩⟩; (try first | exact ⟨rfl, _, World.drewN_drewN _ _ _⟩ | exact ⟨rfl, _, Eq.trans (World.drewN_drewN _ _ _) (congrArg (World.drewN _) (Nat.add_assoc _ _ _))⟩))); try go_wp2_with (first | (go_at_call 47; (with_reducible refine (spec_l1In.calls a0 1 10 true _ A4.out).mono ?_); rintro e w' ⟨rfl, ⟨nd, rfl⟩⟩; (try first | exact ⟨rfl, _, World.drewN_drewN _ _ _⟩ | exact ⟨rfl, _, Eq.trans (World.drewN_drewN _ _ _) (congrArg (World.drewN _) (Nat.add_assoc _ _ _))⟩)) | (go_at_call 72; (with_reducible refine (spec_nuLists.calls k a0 t108 _ A6.out).mono ?_); rintro e w' ⟨rfl, ⟨nd, rfl⟩⟩; (try first | exact ⟨rfl, _, World.drewN_drewN _ _ _⟩ | exact ⟨rfl, _, Eq.trans (World.drewN_drewN _ _ _) (congrArg (World.drewN _) (Nat.add_assoc _ _ _))⟩)) | (go_at_call 47; (with_reducible refine (spec_l1In.calls a1 0 (wrap64 (t108 - 2)) t109 _ A7.out).mono ?_); rintro e w' ⟨rfl, ⟨nd, rfl⟩⟩; (try first | exact ⟨rfl, _, World.drewN_drewN _ _ _⟩ | exact ⟨rfl, _, Eq.trans (World.drewN_drewN _ _ _) (congrArg (World.drewN _) (Nat.add_assoc _ _ _))⟩))))
   go_meet
   case rel => exact ⟨_, (!t109), (by first | rfl | (simp; done) | (simp [*]; done)), H', ⟨by first | omega | exact Nat.le_refl _⟩, ⟨by repeat (first | (with_reducible first | exact HB.out | apply below_alloc | apply pw_below_drewN | apply below_drew1) | exact HB.out)⟩⟩
  ·replace c5 := Bool.eq_false_iff.mpr c5
   subst c5
   have H1 : (spec_SwapPlace.j0 k a0 a1 true) = some (r1, r2) := by rw [if_neg (show ¬ (false = true) by decide)] at H; exact H
   clear H
   have H := H1
   clear H1
   have H' := Aside0.mk H
   clear H
   go_wp2_with (first | (go_at_call 47; (with_reducible refine (spec_l1In.calls a0 1 10 false _ A4.out).mono ?_); rintro e w' ⟨rfl, ⟨nd, rfl⟩⟩; (try first | exact ⟨rfl, _, World.drewN_drewN _ _ _⟩ | exact ⟨rfl, _, Eq.trans (World.drewN_drewN _ _ _) (congrArg (World.drewN _) (Nat.add_assoc _ _ _))⟩)))
   repeat (go_quiet (first | (go_at_call 47; (with_reducible refine (spec_l1In.calls a0 1 10 false _ A4.out).mono ?_); rintro e w' ⟨rfl, ⟨nd, rfl⟩⟩; (try first | exact ⟨rfl, _, World.drewN_drewN _ _ _⟩ | exact ⟨rfl, _, Eq.trans (World.drewN_drewN _ _ _) (congrArg (World.drewN _) (Nat.add_assoc _ _ _))⟩))); try go_wp2_with (first | (go_at_call 47; (with_reducible refine (spec_l1In.calls a0 1 10 false _ A4.out).mono ?_); rintro e w' ⟨rfl, ⟨nd, rfl⟩⟩; (try first | exact ⟨rfl, _, World.drewN_drewN _ _ _⟩ | exact ⟨rfl, _, Eq.trans (World.drewN_drewN _ _ _) (congrArg (World.drewN _) (Nat.add_assoc _ _ _))⟩))))
   go_meet
   case rel => exact ⟨_, (true), (by first | rfl | (simp; done) | (simp [*]; done)), H', ⟨by first | omega | exact Nat.le_refl _⟩, ⟨by repeat (first | (with_reducible first | exact HB.out | apply below_alloc | apply pw_below_drewN | apply below_drew1) | exact HB.out)⟩⟩
 case rest =>
  clear HC3
  try clear p2
  try clear c3
  try clear c5
  try clear p6
  obtain ⟨kq, x19_2, rfl, HA, HJ2, HB⟩ := hcut
  cases kq with
  | zero => exact absurd HA.out (by simp [spec_SwapPlace.j0])
  | succ kj2 =>
   have H := HA.out
   clear HA
   simp only [spec_SwapPlace.j0] at H
   by_cases c8 : x19_2 = true
   ·subst c8
    have H1 : (some (0, false)) = some (r1, r2) := by rw [if_pos rfl] at H; exact H
    clear H
    have H := H1
    clear H1
    simp only [Option.some.injEq, Prod.mk.injEq] at H
    obtain ⟨rfl, rfl⟩ := H
    go_wp2
    repeat (go_quiet (fail); try go_wp2)
    go_ret2
    exact ⟨by first | rfl | (simp [errW_none, errW_some] <;> rfl) | (simp [*, errW_none, errW_some] <;> rfl), by repeat (first | (with_reducible first | exact HB.out | apply below_alloc | apply pw_below_drewN | apply below_drew1) | exact HB.out)⟩
   ·replace c8 := Bool.eq_false_iff.mpr c8
    subst c8
    have H1 : ((spec_nuSwapped.f kj2 a0 a1).bind fun t110 => ((spec_nuSwapped.f kj2 a0 (wrap64 (a1 + 1))).bind fun t113 => (spec_SwapPlace.l0 kj2 t110 t113 (t110.length : Int) 0))) = some (r1, r2) := by rw [if_neg (show ¬ (false = true) by decide)] at H; exact H
    clear H
    have H := H1
    clear H1
    replace H := Option.bind_eq_some_iff.mp H
    obtain ⟨t110, A90, H⟩ := H
    replace H : ((spec_nuSwapped.f kj2 a0 (wrap64 (a1 + 1))).bind fun t113 => (spec_SwapPlace.l0 kj2 t110 t113 (t110.length : Int) 0)) = some (r1, r2) := H
    have A9 := Aside0.mk A90
    clear A90
    replace H := Option.bind_eq_some_iff.mp H
    obtain ⟨t113, A100, H⟩ := H
    replace H : (spec_SwapPlace.l0 kj2 t110 t113 (t110.length : Int) 0) = some (r1, r2) := H
    have A10 := Aside0.mk A100
    clear A100
    have H' := Aside0.mk H
    clear H
    go_wp2_with (first | (go_at_call 73; (with_reducible refine (spec_nuSwapped.calls kj2 a0 a1 t110 _ A9.out).mono ?_); rintro e w11 ⟨v111, rfl, ho0, hb⟩; have n0_ := Aside0.mk (Kd.R_lower ho0 (below_size (by repeat (first | (with_reducible first | exact HB.out | apply below_alloc | apply pw_below_drewN | apply below_drew1) | exact HB.out)))); have n1_ := Aside0.mk (below_step (by repeat (first | (with_reducible first | exact HB.out | apply below_alloc | apply pw_below_drewN | apply below_drew1) | exact HB.out)) hb); clear HB; have HO112 := n0_; have HB := n1_; clear n0_ n1_; (try clear hb); (try clear hb2); (try clear hk); (try clear hi); (try clear ho0)) | (go_at_call 73; (with_reducible refine (spec_nuSwapped.calls kj2 a0 (wrap64 (a1 + 1)) t113 _ A10.out).mono ?_); rintro e w12 ⟨v114, rfl, ho0, hb⟩; have n0_ := Aside0.mk (Kd.R_elder' (by (with_reducible repeat (first | apply Kd.R_alloc | apply Kd.R_drewN | apply Kd.R_drew)); exact HO112.out) (Kd.R_base ho0) hb); have n1_ := Aside0.mk (Kd.R_lower (Kd.R_new' ho0 (Kd.R_lt (by (with_reducible repeat (first | apply Kd.R_alloc | apply Kd.R_drewN | apply Kd.R_drew)); exact HO112.out))) (below_size (by repeat (first | (with_reducible first | exact HB.out | apply below_alloc | apply pw_below_drewN | apply below_drew1) | exact HB.out)))); have n2_ := Aside0.mk (below_step (by repeat (first | (with_reducible first | exact HB.out | apply below_alloc | apply pw_below_drewN | apply below_drew1) | exact HB.out)) hb); clear HO112; clear HB; have HO112 := n0_; have HO115 := n1_; have HB := n2_; clear n0_ n1_ n2_; (try clear hb); (try clear hb2); (try clear hk); (try clear hi); (try clear ho0); obtain ⟨Ao13, co13, eo13⟩ := Kd.R_slice HO112.out; subst eo13))
    repeat (go_quiet (first | (go_at_call 73; (with_reducible refine (spec_nuSwapped.calls kj2 a0 a1 t110 _ A9.out).mono ?_); rintro e w11 ⟨v111, rfl, ho0, hb⟩; have n0_ := Aside0.mk (Kd.R_lower ho0 (below_size (by repeat (first | (with_reducible first | exact HB.out | apply below_alloc | apply pw_below_drewN | apply below_drew1) | exact HB.out)))); have n1_ := Aside0.mk (below_step (by repeat (first | (with_reducible first | exact HB.out | apply below_alloc | apply pw_below_drewN | apply below_drew1) | exact HB.out)) hb); clear HB; have HO112 := n0_; have HB := n1_; clear n0_ n1_; (try clear hb); (try clear hb2); (try clear hk); (try clear hi); (try clear ho0)) | (go_at_call 73; (with_reducible refine (spec_nuSwapped.calls kj2 a0 (wrap64 (a1 + 1)) t113 _ A10.out).mono ?_); rintro e w12 ⟨v114, rfl, ho0, hb⟩; have n0_ := Aside0.mk (Kd.R_elder' (by (with_reducible repeat (first | apply Kd.R_alloc | apply Kd.R_drewN | apply Kd.R_drew)); exact HO112.out) (Kd.R_base ho0) hb); have n1_ := Aside0.mk (Kd.R_lower (Kd.R_new' ho0 (Kd.R_lt (by (with_reducible repeat (first | apply Kd.R_alloc | apply Kd.R_drewN | apply Kd.R_drew)); exact HO112.out))) (below_size (by repeat (first | (with_reducible first | exact HB.out | apply below_alloc | apply pw_below_drewN | apply below_drew1) | exact HB.out)))); have n2_ := Aside0.mk (below_step (by repeat (first | (with_reducible first | exact HB.out | apply below_alloc | apply pw_below_drewN | apply below_drew1) | exact HB.out)) hb); clear HO112; clear HB; have HO112 := n0_; have HO115 := n1_; have HB := n2_; clear n0_ n1_ n2_; (try clear hb); (try clear hb2); (try clear hk); (try clear hi); (try clear ho0); obtain ⟨Ao13, co13, eo13⟩ := Kd.R_slice HO112.out; subst eo13)); try go_wp2_with (first | (go_at_call 73; (with_reducible refine (spec_nuSwapped.calls kj2 a0 a1 t110 _ A9.out).mono ?_); rintro e w11 ⟨v111, rfl, ho0, hb⟩; have n0_ := Aside0.mk (Kd.R_lower ho0 (below_size (by repeat (first | (with_reducible first | exact HB.out | apply below_alloc | apply pw_below_drewN | apply below_drew1) | exact HB.out)))); have n1_ := Aside0.mk (below_step (by repeat (first | (with_reducible first | exact HB.out | apply below_alloc | apply pw_below_drewN | apply below_drew1) | exact HB.out)) hb); clear HB; have HO112 := n0_; have HB := n1_; clear n0_ n1_; (try clear hb); (try clear hb2); (try clear hk); (try clear hi); (try clear ho0)) | (go_at_call 73; (with_reducible refine (spec_nuSwapped.calls kj2 a0 (wrap64 (a1 + 1)) t113 _ A10.out).mono ?_); rintro e w12 ⟨v114, rfl, ho0, hb⟩; have n0_ := Aside0.mk (Kd.R_elder' (by (with_reducible repeat (first | apply Kd.R_alloc | apply Kd.R_drewN | apply Kd.R_drew)); exact HO112.out) (Kd.R_base ho0) hb); have n1_ := Aside0.mk (Kd.R_lower (Kd.R_new' ho0 (Kd.R_lt (by (with_reducible repeat (first | apply Kd.R_alloc | apply Kd.R_drewN | apply Kd.R_drew)); exact HO112.out))) (below_size (by repeat (first | (with_reducible first | exact HB.out | apply below_alloc | apply pw_below_drewN | apply below_drew1) | exact HB.out)))); have n2_ := Aside0.mk (below_step (by repeat (first | (with_reducible first | exact HB.out | apply below_alloc | apply pw_below_drewN | apply below_drew1) | exact HB.out)) hb); clear HO112; clear HB; have HO112 := n0_; have HO115 := n1_; have HB := n2_; clear n0_ n1_ n2_; (try clear hb); (try clear hb2); (try clear hk); (try clear hi); (try clear ho0); obtain ⟨Ao13, co13, eo13⟩ := Kd.R_slice HO112.out; subst eo13)))
    go_loopg [29] kj2 (fun kq v29 w' => ∃ (x29_2 : Int), v29 = .int .i64 x29_2 ∧ Aside0 (spec_SwapPlace.l0 kq t110 t113 (t110.length : Int) x29_2 = some (r1, r2)) ∧ Aside0 (kq ≤ kj2) ∧ Aside0 (Kd.R (Kd.int .i64) 3 w' w.heap.size (fun k_ => some k_ ≠ (v114 : Value).ownBlock) (.slice Ao13 t110.length co13) t110) ∧ Aside0 (Kd.R (Kd.int .i64) 3 w' w.heap.size (fun k_ => some k_ ≠ ((.slice Ao13 t110.length co13) : Value).ownBlock) v114 t113) ∧ Aside0 (Below w.heap.size w w'))
    case atStart => exact ⟨(0), (by first | rfl | (simp; done) | (simp [*]; done)), H', ⟨Nat.le_refl _⟩, ⟨by (with_reducible repeat (first | apply Kd.R_alloc | apply Kd.R_drewN | apply Kd.R_drew)); exact Kd.R_mono HO112.out (fun _ hk => hk.2)⟩, ⟨by (with_reducible repeat (first | apply Kd.R_alloc | apply Kd.R_drewN | apply Kd.R_drew)); exact Kd.R_mono HO115.out (fun _ hk => hk.2)⟩, ⟨by repeat (first | (with_reducible first | exact HB.out | apply below_alloc | apply pw_below_drewN | apply below_drew1) | exact HB.out)⟩⟩
    case round =>
     clear H'
     try clear p2
     try clear c3
     try clear c5
     try clear p6
     try clear c8
     try clear p2
     try clear p6
     obtain ⟨x29_2, rfl, HA, HK2, HO_6, HO_7, HB⟩ := hrel
     cases gk with
     | zero => exact absurd HA.out (by simp [spec_SwapPlace.l0])
     | succ k2 =>
      have H := HA.out
      clear HA
      simp only [spec_SwapPlace.l0] at H
      by_cases c14 : x29_2 < (t110.length : Int)
      ·rw [if_pos c14] at H
       have c14b0 : decide (x29_2 < (t110.length : Int)) = true := decide_eq_true c14
       clear c14
       by_cases c15 : 0 ≤ x29_2
       ·rw [if_pos c15] at H
        have c15b0 : decide (0 ≤ x29_2) = true := decide_eq_true c15
        clear c15
        by_cases c16 : x29_2 < (t110.length : Int)
        ·rw [if_pos c16] at H
         have c16b0 : decide (x29_2 < (t110.length : Int)) = true := decide_eq_true c16
         clear c16
         by_cases c17 : x29_2 < (t113.length : Int)
         ·rw [if_pos c17] at H
          have c17b0 : decide (x29_2 < (t113.length : Int)) = true := decide_eq_true c17
          clear c17
          by_cases c18 : (rd t110 x29_2) = (rd t113 x29_2)
          ·rw [if_pos c18] at H
           have c18b0 : ((rd t110 x29_2) == (rd t113 x29_2)) = true := beq_iff_eq.mpr c18
           have c18b1 : ((rd t110 x29_2) != (rd t113 x29_2)) = false := bne_eq_false_iff_eq.mpr c18
           clear c18
           have H' := Aside0.mk H
           clear H
           have p116 : 0 ≤ (x29_2 : Int) := of_decide_eq_true (by first | (with_reducible assumption) | assumption)
           have q116 : x29_2 < (t110.length : Int) := of_decide_eq_true (by first | (with_reducible assumption) | assumption)
           obtain ⟨ad116, e116, hx116_0⟩ := Kd.at_int (Kd.R_reads' HO_6.out).2.2 x29_2 p116 q116
           cases e116
           replace p116 := eq_true p116
           replace q116 := eq_true q116
           obtain ⟨Ao19, co19, eo19⟩ := Kd.R_slice HO_7.out
           subst eo19
           have p117 : 0 ≤ (x29_2 : Int) := of_decide_eq_true (by first | (with_reducible assumption) | assumption)
           have q117 : x29_2 < (t113.length : Int) := of_decide_eq_true (by first | (with_reducible assumption) | assumption)
           obtain ⟨ad117, e117, hx117_0⟩ := Kd.at_int (Kd.R_reads' HO_7.out).2.2 x29_2 p117 q117
           cases e117
           replace p117 := eq_true p117
           replace q117 := eq_true q117
           go_wp2
           repeat (go_quiet (fail); try go_wp2)
           go_roundg k2
           case measure => have := HJ2.out; have := HK2.out; omega
           case rel => exact ⟨(wrap64 (x29_2 + 1)), (by first | rfl | (simp; done) | (simp [*]; done)), H', ⟨by have := HJ2.out; have := HK2.out; omega⟩, ⟨by (with_reducible repeat (first | apply Kd.R_alloc | apply Kd.R_drewN | apply Kd.R_drew)); exact HO_6.out⟩, ⟨by (with_reducible repeat (first | apply Kd.R_alloc | apply Kd.R_drewN | apply Kd.R_drew)); exact HO_7.out⟩, ⟨by repeat (first | (with_reducible first | exact HB.out | apply below_alloc | apply pw_below_drewN | apply below_drew1) | exact HB.out)⟩⟩
          ·rw [if_neg c18] at H
           have c18b0 : ((rd t110 x29_2) == (rd t113 x29_2)) = false := beq_eq_false_iff_ne.mpr c18
           have c18b1 : ((rd t110 x29_2) != (rd t113 x29_2)) = true := bne_iff_ne.mpr c18
           simp only [Option.some.injEq, Prod.mk.injEq] at H
           obtain ⟨rfl, rfl⟩ := H
           have p116 : 0 ≤ (x29_2 : Int) := of_decide_eq_true (by first | (with_reducible assumption) | assumption)
           have q116 : x29_2 < (t110.length : Int) := of_decide_eq_true (by first | (with_reducible assumption) | assumption)
           obtain ⟨ad116, e116, hx116_0⟩ := Kd.at_int (Kd.R_reads' HO_6.out).2.2 x29_2 p116 q116
           cases e116
           replace p116 := eq_true p116
           replace q116 := eq_true q116
           obtain ⟨Ao20, co20, eo20⟩ := Kd.R_slice HO_7.out
           subst eo20
           have p117 : 0 ≤ (x29_2 : Int) := of_decide_eq_true (by first | (with_reducible assumption) | assumption)
           have q117 : x29_2 < (t113.length : Int) := of_decide_eq_true (by first | (with_reducible assumption) | assumption)
           obtain ⟨ad117, e117, hx117_0⟩ := Kd.at_int (Kd.R_reads' HO_7.out).2.2 x29_2 p117 q117
           cases e117
           replace p117 := eq_true p117
           replace q117 := eq_true q117
           go_wp2
           repeat (go_quiet (fail); try go_wp2)
           go_ret2
           exact ⟨by first | rfl | (simp [errW_none, errW_some] <;> rfl) | (simp [*, errW_none, errW_some] <;> rfl), by repeat (first | (with_reducible first | exact HB.out | apply below_alloc | apply pw_below_drewN | apply below_drew1) | exact HB.out)⟩
         ·rw [if_neg c17] at H
          exact absurd H (by simp)
        ·rw [if_neg c16] at H
         exact absurd H (by simp)
       ·rw [if_neg c15] at H
        exact absurd H (by simp)
      ·rw [if_neg c14] at H
       have c14b0 : decide (x29_2 < (t110.length : Int)) = false := decide_eq_false c14
       clear c14
       simp only [Option.some.injEq, Prod.mk.injEq] at H
       obtain ⟨rfl, rfl⟩ := H
       go_wp2
       repeat (go_quiet (fail); try go_wp2)
       go_ret2
       exact ⟨by first | rfl | (simp [errW_none, errW_some] <;> rfl) | (simp [*, errW_none, errW_some] <;> rfl), by repeat (first | (with_reducible first | exact HB.out | apply below_alloc | apply pw_below_drewN | apply below_drew1) | exact HB.out)⟩

/-! ### impl_in: function 45 -/
def impl_in.f (a0 : Int) (a1 : Int) (a2 : Int) : Option (Bool) := if a0 ≥ a1 then (some (decide (a0 ≤ a2))) else (some false)
set_option maxHeartbeats 8000000 in
set_option maxRecDepth 100000 in
theorem impl_in.calls (a0 : Int) (a1 : Int) (a2 : Int) (r : Bool) (w : World) (h : impl_in.f a0 a1 a2 = some r) :
  Calls Try.prog 45 #[.int .i64 a0, .int .i64 a1, .int .i64 a2] w fun e w' => e = .returned (.bool r) ∧ Drawn0 w w' := by
 have H : (if a0 ≥ a1 then (some (decide (a0 ≤ a2))) else (some false)) = some r := h
 clear h
 by_cases c4 : a0 ≥ a1
 ·rw [if_pos c4] at H
  have c4b0 : decide (a1 ≤ a0) = true := decide_eq_true c4
  clear c4
  obtain rfl := Option.some.inj H
  go_enter Try.func45, Try.ntmps45
  go_wp2
  go_ret
  exact ⟨by first | rfl | (simp; done) | (simp [*]; done), by repeat (first | exact Drawn0.refl _ | apply Drawn0.step)⟩
 ·rw [if_neg c4] at H
  have c4b0 : decide (a1 ≤ a0) = false := decide_eq_false c4
  clear c4
  obtain rfl := Option.some.inj H
  go_enter Try.func45, Try.ntmps45
  go_wp2
  go_ret
  exact ⟨by first | rfl | (simp; done) | (simp [*]; done), by repeat (first | exact Drawn0.refl _ | apply Drawn0.step)⟩

/-! ### impl_orders: function 75 -/
def impl_orders.l0 : Nat → Int → Int → Int → Option (Int)
 | 0, _, _, _ => none
 | k + 1, x0, x3, x4 => if x4 ≤ x0 then (impl_orders.l0 k x0 (wrap64 (x3 * x4)) (wrap64 (x4 + 1))) else (some x3)
def impl_orders.f (k : Nat) (a0 : Int) : Option (Int) := impl_orders.l0 k a0 1 2
theorem impl_orders.mono_l : ∀ k, (∀ y0 y1 y2, LeO (impl_orders.l0 k y0 y1 y2) (impl_orders.l0 (k + 1) y0 y1 y2))
 | 0 => fun _ _ _ r h => by simp [impl_orders.l0] at h
 | k + 1 => by
  have ih0 := impl_orders.mono_l k
  ·intro y0 y1 y2
   unfold impl_orders.l0
   repeat' first
   | (with_reducible exact ih0 _ _ _)
   | (with_reducible exact LeO.refl _)
   | (with_reducible exact LeO.none _)
   | (with_reducible refine LeO.ite ?_ ?_)
   | (with_reducible refine LeO.bind ?_ (fun _ => ?_))
   | exact ih0 _ _ _
   | exact LeO.none _
   | refine LeO.ite ?_ ?_
   | refine LeO.bind ?_ (fun _ => ?_)
theorem impl_orders.mono : ∀ a0 k, LeO (impl_orders.f k a0) (impl_orders.f (k + 1) a0) := by
 intro a0 k
 have ih0 := impl_orders.mono_l k
 unfold impl_orders.f
 repeat' first
   | (with_reducible exact ih0 _ _ _)
   | (with_reducible exact LeO.refl _)
   | (with_reducible exact LeO.none _)
   | (with_reducible refine LeO.ite ?_ ?_)
   | (with_reducible refine LeO.bind ?_ (fun _ => ?_))
   | exact ih0 _ _ _
   | exact LeO.none _
   | refine LeO.ite ?_ ?_
   | refine LeO.bind ?_ (fun _ => ?_)
set_option maxHeartbeats 8000000 in
set_option maxRecDepth 100000 in
theorem impl_orders.calls (k : Nat) (a0 : Int) (r : Int) (w : World) (h : impl_orders.f k a0 = some r) :
  Calls Try.prog 75 #[.int .i64 a0] w fun e w' => e = .returned (.int .i64 r) ∧ Drawn0 w w' := by
 have H : (impl_orders.l0 k a0 1 2) = some r := h
 clear h
 have H' := Aside0.mk H
 clear H
 go_enter Try.func75, Try.ntmps75
 go_wp2
 go_loopg [3, 4] k (fun kq v3 v4 w' => ∃ (x3_1 : Int) (x4_1 : Int), v3 = .int .i64 x3_1 ∧ v4 = .int .i64 x4_1 ∧ Aside0 (impl_orders.l0 kq a0 x3_1 x4_1 = some r) ∧ Aside0 (kq ≤ k) ∧ Drawn0 w w')
 case atStart => exact ⟨(1), (2), (by first | rfl | (simp; done) | (simp [*]; done)), (by first | rfl | (simp; done) | (simp [*]; done)), H', ⟨Nat.le_refl _⟩, by repeat (first | exact Drawn0.refl _ | apply Drawn0.step)⟩
 case round =>
  clear H'
  obtain ⟨x3_1, x4_1, rfl, rfl, HA, HK1, ⟨m1, rfl⟩⟩ := hrel
  cases gk with
  | zero => exact absurd HA.out (by simp [impl_orders.l0])
  | succ k1 =>
   have H := HA.out
   clear HA
   simp only [impl_orders.l0] at H
   by_cases c2 : x4_1 ≤ a0
   ·rw [if_pos c2] at H
    have c2b0 : decide (x4_1 ≤ a0) = true := decide_eq_true c2
    clear c2
    have H' := Aside0.mk H
    clear H
    go_wp2
    go_roundg k1
    case measure => have := HK1.out; omega
    case rel => exact ⟨(wrap64 (x3_1 * x4_1)), (wrap64 (x4_1 + 1)), (by first | rfl | (simp; done) | (simp [*]; done)), (by first | rfl | (simp; done) | (simp [*]; done)), H', ⟨by have := HK1.out; omega⟩, by repeat (first | exact Drawn0.refl _ | apply Drawn0.step)⟩
   ·rw [if_neg c2] at H
    have c2b0 : decide (x4_1 ≤ a0) = false := decide_eq_false c2
    clear c2
    obtain rfl := Option.some.inj H
    go_wp2
    go_ret
    exact ⟨by first | rfl | (simp; done) | (simp [*]; done), by repeat (first | exact Drawn0.refl _ | apply Drawn0.step)⟩

/-! ### impl_isSwapped: function 74 -/
def impl_isSwapped.f (k : Nat) (a0 : Int) (a1 : Int) : Option (Bool) := (impl_in.f a0 1 10).bind fun t118 => (if t118 = true then ((impl_orders.f k a0).bind fun t119 => ((impl_in.f a1 0 (wrap64 (t119 - 1))).bind fun t120 => (some t120))) else (some false))
theorem impl_isSwapped.mono : ∀ a0 a1 k, LeO (impl_isSwapped.f k a0 a1) (impl_isSwapped.f (k + 1) a0 a1) := by
 intro a0 a1 k
 unfold impl_isSwapped.f
 repeat' first
   | (with_reducible exact impl_orders.mono _ _)
   | (with_reducible exact LeO.refl _)
   | (with_reducible exact LeO.none _)
   | (with_reducible refine LeO.ite ?_ ?_)
   | (with_reducible refine LeO.bind ?_ (fun _ => ?_))
   | exact impl_orders.mono _ _
   | exact LeO.none _
   | refine LeO.ite ?_ ?_
   | refine LeO.bind ?_ (fun _ => ?_)
set_option maxHeartbeats 8000000 in
set_option maxRecDepth 100000 in
theorem impl_isSwapped.calls (k : Nat) (a0 : Int) (a1 : Int) (r : Bool) (w : World) (h : impl_isSwapped.f k a0 a1 = some r) :
  Calls Try.prog 74 #[.int .i64 a0, .int .i64 a1] w fun e w' => e = .returned (.bool r) ∧ Drawn0 w w' := by
 have H : ((impl_in.f a0 1 10).bind fun t118 => (if t118 = true then ((impl_orders.f k a0).bind fun t119 => ((impl_in.f a1 0 (wrap64 (t119 - 1))).bind fun t120 => (some t120))) else (some false))) = some r := h
 clear h
 replace H := Option.bind_eq_some_iff.mp H
 obtain ⟨t118, A30, H⟩ := H
 replace H : (if t118 = true then ((impl_orders.f k a0).bind fun t119 => ((impl_in.f a1 0 (wrap64 (t119 - 1))).bind fun t120 => (some t120))) else (some false)) = some r := H
 have A3 := Aside0.mk A30
 clear A30
 by_cases c4 : t118 = true
 ·subst c4
  have H1 : ((impl_orders.f k a0).bind fun t119 => ((impl_in.f a1 0 (wrap64 (t119 - 1))).bind fun t120 => (some t120))) = some r := by rw [if_pos rfl] at H; exact H
  clear H
  have H := H1
  clear H1
  replace H := Option.bind_eq_some_iff.mp H
  obtain ⟨t119, A50, H⟩ := H
  replace H : ((impl_in.f a1 0 (wrap64 (t119 - 1))).bind fun t120 => (some t120)) = some r := H
  have A5 := Aside0.mk A50
  clear A50
  replace H := Option.bind_eq_some_iff.mp H
  obtain ⟨t120, A60, H⟩ := H
  replace H : (some t120) = some r := H
  have A6 := Aside0.mk A60
  clear A60
  obtain rfl := Option.some.inj H
  go_enter Try.func74, Try.ntmps74
  go_wp2_with (first | ((with_reducible refine gate_callee (f := 45) rfl ?_); refine goesL_ (some 6) rfl rfl Try.func45 (by kernel_rfl) rfl #[.int .i64 a0, .int .i64 1, .int .i64 10] rfl (by (try simp only [List.map_toArray, List.map_cons, List.map_nil]); first | done | rfl | (simp only [List.length_drop, List.length_take]; rfl)) ?_; (with_reducible refine (impl_in.calls a0 1 10 true _ A3.out).mono ?_); rintro e w' ⟨rfl, ⟨nd, rfl⟩⟩; refine ⟨_, rfl, ?_⟩) | (go_at_call 75; (with_reducible refine (impl_orders.calls k a0 t119 _ A5.out).mono ?_); rintro e w' ⟨rfl, ⟨nd, rfl⟩⟩) | (go_at_call 45; (with_reducible refine (impl_in.calls a1 0 (wrap64 (t119 - 1)) t120 _ A6.out).mono ?_); rintro e w' ⟨rfl, ⟨nd, rfl⟩⟩))
  go_ret
  exact ⟨by first | rfl | (simp; done) | (simp [*]; done), by repeat (first | exact Drawn0.refl _ | apply Drawn0.step)⟩
 ·replace c4 := Bool.eq_false_iff.mpr c4
  subst c4
  have H1 : (some false) = some r := by rw [if_neg (show ¬ (false = true) by decide)] at H; exact H
  clear H
  have H := H1
  clear H1
  obtain rfl := Option.some.inj H
  go_enter Try.func74, Try.ntmps74
  go_wp2_with (first | ((with_reducible refine gate_callee (f := 45) rfl ?_); refine goesL_ (some 6) rfl rfl Try.func45 (by kernel_rfl) rfl #[.int .i64 a0, .int .i64 1, .int .i64 10] rfl (by (try simp only [List.map_toArray, List.map_cons, List.map_nil]); first | done | rfl | (simp only [List.length_drop, List.length_take]; rfl)) ?_; (with_reducible refine (impl_in.calls a0 1 10 false _ A3.out).mono ?_); rintro e w' ⟨rfl, ⟨nd, rfl⟩⟩; refine ⟨_, rfl, ?_⟩))
  go_ret
  exact ⟨by first | rfl | (simp; done) | (simp [*]; done), by repeat (first | exact Drawn0.refl _ | apply Drawn0.step)⟩

-- NOT PRINTED: function 86 (slices_overlaps_int)

end Go.Proofs.Ytomaodhlcacobaa.B
