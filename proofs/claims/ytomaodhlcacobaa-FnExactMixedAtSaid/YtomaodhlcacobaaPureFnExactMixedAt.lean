/- The law FnExactMixedAt, told over plain functions, holds for all arguments; no condition beyond the kinds of the numbers. -/
import Derived.Test.YtomaodhlcacobaaAx1
import Derived.Test.YtomaodhlcacobaaAx4
import Derived.Test.YtomaodhlcacobaaAx5
import Derived.Test.YtomaodhlcacobaaDigits
set_option linter.unusedVariables false
set_option linter.unusedSimpArgs false
namespace Go.Proofs.Ytomaodhlcacobaa.Pure
open Go.RowKit Go.Proofs.Ytomaodhlcacobaa.A Go.Proofs.YtomaodhlcacobaaW.PrintWords Go.Proofs.YtomaodhlcacobaaW.PrintLast Go.Proofs.YtomaodhlcacobaaW.PrintMore

theorem mixedAt_eq : ∀ (k : Nat) (a : List Int) (b : Int) (c : List Int) (d e : Int), impl_MixedAt.l0 k a b c d e = spec_MixedAt.l0 k a b c d e := by
  intro k
  induction k with
  | zero => intros; rfl
  | succ k ih =>
    intro a b c d e
    rw [impl_MixedAt.l0, spec_MixedAt.l0]
    simp only [product_eq, ih, Option.bind_some]
    split
    · split
      · split
        · congr 1
          funext t
          by_cases q1 : t = 0
          · simp only [q1, if_true]
          · by_cases q2 : (Int.tmod (wrap64 (Int.tdiv b t)) 2) = 1
            · by_cases q3 : c.length < 17592186044416
              · simp only [q1, q2, q3, if_true, if_false]
              · simp only [q1, q2, q3, if_true, if_false]
            · by_cases q3 : c.length < 17592186044416
              · simp only [q1, q2, q3, if_true, if_false]
              · simp only [q1, q2, q3, if_false]
        · rfl
      · rfl
    · rfl
theorem mixedAt_l0 {ns : List Nat} (h0 : ∀ y ∈ ns, 0 < y) (h1 : ∀ y ∈ ns, y ≤ 20) (hl : ns.length ≤ 8) (d : Nat) : ∀ (i : Nat) (x1 : Int) (x6 : List Int), i + d = ns.length → x6.length ≤ i →
    ∃ out : List Int, out.length ≤ 8 ∧ ∀ k, d + 8 < k → spec_MixedAt.l0 k (ns.map Int.ofNat) x1 x6 (ns.length : Int) (i : Int) = some (out, true) := by
  induction d with
  | zero =>
    intro i x1 x6 hi hx
    refine ⟨x6, by omega, fun k hk => ?_⟩
    obtain ⟨k, rfl⟩ : ∃ m, k = m + 1 := ⟨k - 1, by omega⟩
    rw [spec_MixedAt.l0, if_neg (by omega)]
  | succ d ih =>
    intro i x1 x6 hi hx
    obtain ⟨_, p2, p3⟩ := prod_drop h0 h1 hl (i + 1) 9 (by omega)
    by_cases q : (Int.tmod (wrap64 (Int.tdiv x1 (M.prod (ns.drop (i + 1)) : Int))) 2) = 1
    · obtain ⟨out, ho, hk'⟩ := ih (i + 1) (wrap64 ((wrap64 ((M.prod (ns.drop (i + 1)) : Int) - 1)) - (Int.tmod x1 (M.prod (ns.drop (i + 1)) : Int)))) (x6 ++ [wrap64 (Int.tdiv x1 (M.prod (ns.drop (i + 1)) : Int))]) (by omega) (by simp; omega)
      refine ⟨out, ho, fun k hk => ?_⟩
      obtain ⟨k, rfl⟩ : ∃ m, k = m + 1 := ⟨k - 1, by omega⟩
      have p1 := (prod_drop h0 h1 hl (i + 1) k (by omega)).1
      rw [spec_MixedAt.l0, if_pos (by omega), w64 (x := (i : Int) + 1) (by omega) (by omega), if_pos (by omega), if_pos (by rw [List.length_map]; omega), show ((i : Int) + 1) = ((i + 1 : Nat) : Int) by omega, Int.toNat_natCast, p1]
      simp only [Option.bind_some]
      rw [if_neg (by omega), if_pos q, if_pos (by omega)]
      exact hk' k (by omega)
    · obtain ⟨out, ho, hk'⟩ := ih (i + 1) (Int.tmod x1 (M.prod (ns.drop (i + 1)) : Int)) (x6 ++ [wrap64 (Int.tdiv x1 (M.prod (ns.drop (i + 1)) : Int))]) (by omega) (by simp; omega)
      refine ⟨out, ho, fun k hk => ?_⟩
      obtain ⟨k, rfl⟩ : ∃ m, k = m + 1 := ⟨k - 1, by omega⟩
      have p1 := (prod_drop h0 h1 hl (i + 1) k (by omega)).1
      rw [spec_MixedAt.l0, if_pos (by omega), w64 (x := (i : Int) + 1) (by omega) (by omega), if_pos (by omega), if_pos (by rw [List.length_map]; omega), show ((i : Int) + 1) = ((i + 1 : Nat) : Int) by omega, Int.toNat_natCast, p1]
      simp only [Option.bind_some]
      rw [if_neg (by omega), if_neg q, if_pos (by omega)]
      exact hk' k (by omega)
theorem mixedAt (l : List Int) (a1 : Int) (hl : l.length ≤ 2000000) : ∃ (out : List Int) (b : Bool), out.length ≤ 8 ∧ ∀ k, l.length + 40 < k → spec_MixedAt.f k l a1 = some (out, b) ∧ impl_MixedAt.f k l a1 = some (out, b) := by
  cases hq : lim l with
  | false =>
    refine ⟨[], false, by simp, fun k hk => ?_⟩
    obtain ⟨k, rfl⟩ : ∃ m, k = m + 1 := ⟨k - 1, by omega⟩
    unfold spec_MixedAt.f impl_MixedAt.f
    rw [nuLimits hl (by omega), areLimits, hq]
    exact ⟨rfl, rfl⟩
  | true =>
    obtain ⟨ns, rfl, hn, h0, h1⟩ := lim_nats hq
    have P := fun k hk => prod_drop h0 h1 hn.2 0 k hk
    simp only [List.drop_zero] at P
    obtain ⟨_, p2, p3⟩ := P 9 (by omega)
    have e : wrap64 ((M.prod ns : Int) - 1) = (M.prod ns : Int) - 1 := w64 (by omega) (by omega)
    have head : ∀ k, (ns.map Int.ofNat).length + 40 < k → spec_MixedAt.f k (ns.map Int.ofNat) a1 = spec_MixedAt.j0 k (ns.map Int.ofNat) a1 (!(decide (0 ≤ a1 ∧ a1 ≤ (M.prod ns : Int) - 1))) ∧ impl_MixedAt.f k (ns.map Int.ofNat) a1 = impl_MixedAt.j0 k (ns.map Int.ofNat) a1 (!(decide (0 ≤ a1 ∧ a1 ≤ (M.prod ns : Int) - 1))) := by
      intro k hk
      unfold spec_MixedAt.f impl_MixedAt.f
      rw [nuLimits hl (by omega), areLimits, hq, product_eq, (P k (by omega)).1]
      simp only [Option.bind_some, if_true]
      rw [in_val, e]
      unfold spec_l1In.f
      simp only [Option.bind_some]
      refine ⟨?_, by first | rfl | trivial⟩
      by_cases q0 : a1 ≥ 0
      · have q0' : 0 ≤ a1 := q0
        simp [q0']
      · have q0' : ¬ 0 ≤ a1 := q0
        simp [q0']
    cases hr : decide (0 ≤ a1 ∧ a1 ≤ (M.prod ns : Int) - 1) with
    | false =>
      refine ⟨[], false, by simp, fun k hk => ?_⟩
      rw [(head k hk).1, (head k hk).2, hr]
      obtain ⟨k, rfl⟩ : ∃ m, k = m + 1 := ⟨k - 1, by omega⟩
      exact ⟨rfl, rfl⟩
    | true =>
      obtain ⟨out, hol, ho⟩ := mixedAt_l0 h0 h1 hn.2 ns.length 0 a1 [] (by omega) (by simp)
      refine ⟨out, true, hol, fun k hk => ?_⟩
      rw [(head k hk).1, (head k hk).2, hr]
      obtain ⟨k, rfl⟩ : ∃ m, k = m + 1 := ⟨k - 1, by omega⟩
      rw [spec_MixedAt.j0, impl_MixedAt.j0, List.length_map, mixedAt_eq]
      simp only [Bool.not_true, Bool.false_eq_true, if_false]
      rw [List.length_map] at hk
      exact ⟨ho k (by omega), ho k (by omega)⟩
theorem FnExactMixedAt : laws_FnExactMixedAt.Pure := by
  intro l a1 _ _ _ _
  refine ⟨l.length + 100, ?_⟩
  by_cases hl : (l.length : Int) > 1048576
  · unfold laws_FnExactMixedAt.f
    rw [if_pos hl]
  obtain ⟨out, b, ho, H⟩ := mixedAt l a1 (by omega)
  have hi := fun k hk => (H k hk).2
  obtain ⟨k, hk⟩ : ∃ k, l.length + 100 = k + 3 := ⟨l.length + 97, by omega⟩
  unfold laws_FnExactMixedAt.f
  rw [if_neg hl, toIntS (by omega) (by omega)]
  simp only [Option.bind_some]
  rw [(H _ (by omega)).1, (H _ (by omega)).2, hk]
  simp only [Option.bind_some]
  rw [eqIntS (by omega) (by omega)]
  simp only [decide_true, Option.bind_some, if_true, bne_self_eq_false, laws_FnExactMixedAt.j0, laws_FnExactMixedAt.j1, laws_FnExactMixedAt.j2, Bool.false_eq_true, if_false]
  rw [toIntS (by omega) (by omega)]
  simp only [Option.bind_some]
  rw [eqIntS (by omega) (by omega)]
  simp only [decide_true, Option.bind_some, if_true]
  rw [markIntS (by omega) (by omega)]
  simp only [Option.bind_some]
  rw [if_neg (by omega), eqIntS (by omega) (by omega)]
  simp only [decide_true, Option.bind_some, if_true]
  rw [markIntS (by omega) (by omega)]
  simp only [Option.bind_some]
  rw [heldIntS (by omega) (by omega)]
  simp only [Option.bind_some]
  rw [if_neg (by omega), if_pos trivial, toIntS (by omega) (by omega)]
  simp only [Option.bind_some]
  rw [hi _ (by omega)]
  simp only [Option.bind_some]
  rw [eqIntS (by omega) (by omega)]
  simp only [decide_true, Option.bind_some, if_true]
  rw [heldIntS (by omega) (by omega)]
  have q : ¬ (1 + (out.length : Int) < 0) := by omega
  simp [q]

end Go.Proofs.Ytomaodhlcacobaa.Pure
