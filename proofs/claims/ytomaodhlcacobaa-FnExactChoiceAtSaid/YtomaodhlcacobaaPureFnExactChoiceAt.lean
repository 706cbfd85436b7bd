/- The law FnExactChoiceAt, told over plain functions, holds for all arguments; no condition beyond the kinds of the numbers. -/
import Derived.Test.YtomaodhlcacobaaAx1
import Derived.Test.YtomaodhlcacobaaAx2
import Derived.Test.YtomaodhlcacobaaAx3
import Derived.Test.YtomaodhlcacobaaChAt
set_option linter.unusedVariables false
set_option linter.unusedSimpArgs false
namespace Go.Proofs.Ytomaodhlcacobaa.Pure
open Go.RowKit Go.Proofs.Ytomaodhlcacobaa.A Go.Proofs.YtomaodhlcacobaaW.PrintWords Go.Proofs.YtomaodhlcacobaaW.PrintLast Go.Proofs.YtomaodhlcacobaaW.PrintMore

theorem FnExactChoiceAt : laws_FnExactChoiceAt.Pure := by
  intro a0 a1 a2 _ _ _
  refine ⟨200, ?_⟩
  have key : ∀ (k : Nat) (l : List Int) (b : Bool), 130 < k → l.length ≤ 40 → (∀ k, 120 < k → impl_ChoiceAt.f k a0 a1 a2 = some (l, b)) → spec_ChoiceAt.f (k + 1) a0 a1 a2 = some (l, b) → laws_FnExactChoiceAt.f (k + 1) a0 a1 a2 = some true := by
    intro k l b hk hl hi hs
    obtain ⟨k, rfl⟩ : ∃ m, k = m + 1 := ⟨k - 1, by omega⟩
    unfold laws_FnExactChoiceAt.f
    rw [hs, hi _ (by omega)]
    simp only [Option.bind_some]
    rw [eqIntS (by omega) (by omega)]
    simp only [decide_true, Option.bind_some, if_true, bne_self_eq_false, laws_FnExactChoiceAt.j0, laws_FnExactChoiceAt.j1, Bool.false_eq_true, if_false]
    rw [markIntS (by omega) (by omega)]
    simp only [Option.bind_some]
    rw [heldIntS (by omega) (by omega)]
    simp only [Option.bind_some]
    rw [if_neg (by omega), if_pos trivial, hi _ (by omega)]
    simp only [Option.bind_some]
    rw [eqIntS (by omega) (by omega)]
    simp only [decide_true, Option.bind_some, if_true, bne_self_eq_false, Bool.false_eq_true, if_false]
    rw [heldIntS (by omega) (by omega)]
    simp only [Option.bind_some]
    rw [if_neg (by omega), if_pos trivial]
  by_cases h : ChO a0 a1 a2
  · obtain ⟨s, c, r, rfl, rfl, rfl, hs, hc, hr⟩ := h
    have hl : (chL s c r).length = c := by rw [chL, List.length_reverse, List.length_map, M.chr_length hr]
    exact key 199 _ true (by omega) (by omega) (fun k hk => (choiceAt hs hc hr hk).1) (choiceAt hs hc hr (by omega)).2
  · exact key 199 [] false (by omega) (by simp) (fun k hk => (choiceAt_no h hk).1) (choiceAt_no h (by omega)).2

end Go.Proofs.Ytomaodhlcacobaa.Pure
