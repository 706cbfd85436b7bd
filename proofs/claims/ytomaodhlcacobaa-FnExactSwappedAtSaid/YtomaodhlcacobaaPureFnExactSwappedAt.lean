/- The law FnExactSwappedAt, told over plain functions, holds for all arguments; no condition beyond the kinds of the numbers. -/
import Derived.Test.YtomaodhlcacobaaBx1
import Derived.Test.YtomaodhlcacobaaBx3
import Derived.Test.YtomaodhlcacobaaBSwap
set_option linter.unusedVariables false
set_option linter.unusedSimpArgs false
namespace Go.Proofs.Ytomaodhlcacobaa.Pure
open Go.RowKit Go.Proofs.Ytomaodhlcacobaa.B Go.Proofs.YtomaodhlcacobaaW.PrintWords Go.Proofs.YtomaodhlcacobaaW.PrintLast Go.Proofs.YtomaodhlcacobaaW.PrintMore

theorem FnExactSwappedAt : laws_FnExactSwappedAt.Pure := by
  intro a0 a1 _ _
  refine ⟨60, ?_⟩
  have key : ∀ (k : Nat) (l : List Int) (b : Bool), 56 < k → l.length ≤ 40 → (∀ k, 50 < k → impl_SwappedAt.f k a0 a1 = some (l, b)) → spec_SwappedAt.f (k + 1) a0 a1 = some (l, b) → laws_FnExactSwappedAt.f (k + 1) a0 a1 = some true := by
    intro k l b hk hl hi hs
    obtain ⟨k, rfl⟩ : ∃ m, k = m + 1 := ⟨k - 1, by omega⟩
    unfold laws_FnExactSwappedAt.f
    rw [hs, hi _ (by omega)]
    simp only [Option.bind_some]
    rw [eqIntS (by omega) (by omega)]
    simp only [decide_true, Option.bind_some, if_true, bne_self_eq_false, laws_FnExactSwappedAt.j0, laws_FnExactSwappedAt.j1, Bool.false_eq_true, if_false]
    rw [markIntS (by omega) (by omega)]
    simp only [Option.bind_some]
    rw [heldIntS (by omega) (by omega)]
    simp only [Option.bind_some]
    rw [if_neg (by omega), if_pos trivial, hi _ (by omega)]
    simp only [Option.bind_some]
    rw [eqIntS (by omega) (by omega)]
    simp only [decide_true, Option.bind_some, if_true, bne_self_eq_false, Bool.false_eq_true, if_false]
    rw [heldIntS (by omega) (by omega)]
    simp only [Option.bind_some]
    rw [if_neg (by omega), if_pos trivial]
  by_cases h : ∃ s r : Nat, a0 = s ∧ a1 = r ∧ 1 ≤ s ∧ s ≤ 10 ∧ r < M.fact s
  · have hI : ∀ k, 50 < k → impl_isSwapped.f k a0 a1 = some true := fun k hk => isSwapped_val (by omega) true (by simpa using h)
    obtain ⟨s, r, rfl, rfl, h1, h2, h3⟩ := h
    have h4 := fact_bound (s := s) (by omega)
    refine key 59 ((M.sw s r).map Int.ofNat) true (by omega) (by rw [List.length_map, M.sw_length]; omega) (fun k hk => ?_) ?_
    · unfold impl_SwappedAt.f
      rw [hI k hk, swapped_eq, nuSwapped s r k (by omega) (by omega) (by omega)]
      rfl
    · unfold spec_SwappedAt.f
      rw [in_dec, decide_eq_true (by omega), lists (by omega) (by omega)]
      simp only [Option.bind_some, if_true]
      rw [w64 (by omega) (by omega), in_dec, decide_eq_true (by omega), nuSwapped s r 60 (by omega) (by omega) (by omega)]
      rfl
  · have hI : ∀ k, 50 < k → impl_isSwapped.f k a0 a1 = some false := fun k hk => isSwapped_val (by omega) false (by simpa using h)
    refine key 59 [] false (by omega) (by simp) (fun k hk => ?_) ?_
    · unfold impl_SwappedAt.f
      rw [hI k hk]; rfl
    · unfold spec_SwappedAt.f
      rw [in_dec]
      by_cases c : 1 ≤ a0 ∧ a0 ≤ 10
      · obtain ⟨s, rfl⟩ := Int.eq_ofNat_of_zero_le (show 0 ≤ a0 by omega)
        have h4 := fact_bound (s := s) (by omega)
        rw [decide_eq_true c, lists (by omega) (by omega)]
        simp only [Option.bind_some, if_true]
        rw [w64 (by omega) (by omega), in_dec, decide_eq_false]
        · rfl
        · rintro ⟨h5, h6⟩
          obtain ⟨r, rfl⟩ := Int.eq_ofNat_of_zero_le h5
          exact h ⟨s, r, rfl, rfl, by omega, by omega, by omega⟩
      · rw [decide_eq_false c]; rfl

end Go.Proofs.Ytomaodhlcacobaa.Pure
