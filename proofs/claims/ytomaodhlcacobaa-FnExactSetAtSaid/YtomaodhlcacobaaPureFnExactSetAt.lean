/- The law FnExactSetAt, told over plain functions, holds for all arguments; no condition beyond the kinds of the numbers. -/
import Derived.Test.YtomaodhlcacobaaAx11
import Derived.Test.YtomaodhlcacobaaSets
set_option linter.unusedVariables false
set_option linter.unusedSimpArgs false
namespace Go.Proofs.Ytomaodhlcacobaa.Pure
open Go.RowKit Go.Proofs.Ytomaodhlcacobaa.A Go.Proofs.YtomaodhlcacobaaW.PrintWords Go.Proofs.YtomaodhlcacobaaW.PrintLast Go.Proofs.YtomaodhlcacobaaW.PrintMore

theorem FnExactSetAt : laws_FnExactSetAt.Pure := by
  intro a0 a1 _ _
  refine ⟨60, ?_⟩
  have key : ∀ (k : Nat) (l : List Int) (b : Bool), 56 < k → l.length ≤ 40 → (∀ k, 50 < k → impl_SetAt.f k a0 a1 = some (l, b)) → spec_SetAt.f (k + 1) a0 a1 = some (l, b) → laws_FnExactSetAt.f (k + 1) a0 a1 = some true := by
    intro k l b hk hl hi hs
    obtain ⟨k, rfl⟩ : ∃ m, k = m + 1 := ⟨k - 1, by omega⟩
    unfold laws_FnExactSetAt.f
    rw [hs, hi _ (by omega)]
    simp only [Option.bind_some]
    rw [eqIntS (by omega) (by omega)]
    simp only [decide_true, Option.bind_some, if_true, bne_self_eq_false, laws_FnExactSetAt.j0, laws_FnExactSetAt.j1, Bool.false_eq_true, if_false]
    rw [markIntS (by omega) (by omega)]
    simp only [Option.bind_some]
    rw [heldIntS (by omega) (by omega)]
    simp only [Option.bind_some]
    rw [if_neg (by omega), if_pos trivial, hi _ (by omega)]
    simp only [Option.bind_some]
    rw [eqIntS (by omega) (by omega)]
    simp only [decide_true, Option.bind_some, if_true, bne_self_eq_false, Bool.false_eq_true, if_false]
    rw [heldIntS (by omega) (by omega)]
    simp only [Option.bind_some]
    rw [if_neg (by omega), if_pos trivial]
  by_cases h : ∃ r n : Nat, a0 = r ∧ a1 = n ∧ (1 ≤ r ∧ r ≤ 20) ∧ n < 2 ^ r
  · obtain ⟨r, n, rfl, rfl, hr, hn⟩ := h
    have hl := setL_length r n
    exact key 59 _ true (by omega) (by omega) (fun k hk => implSetAt hr hn hk) (specSetAt hr hn (by omega))
  · exact key 59 [] false (by omega) (by simp) (fun k hk => (setAt_no h (by omega)).1) (setAt_no h (by omega)).2

end Go.Proofs.Ytomaodhlcacobaa.Pure
