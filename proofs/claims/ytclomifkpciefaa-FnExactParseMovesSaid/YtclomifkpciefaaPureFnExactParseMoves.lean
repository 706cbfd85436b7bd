/- The law FnExactParseMoves, told over plain functions, holds for all arguments; no condition beyond the kinds of the numbers. -/
import Derived.Test.YtclomifkpciefaaAx12
import Derived.Test.YtclomifkpciefaaParse
set_option linter.unusedVariables false
set_option linter.unusedSimpArgs false
namespace Go.Proofs.Ytclomifkpciefaa.Pure
open Go.RowKit Go.Proofs.Ytclomifkpciefaa.A Go.Proofs.YtclomifkpciefaaW.PrintWords Go.Proofs.YtclomifkpciefaaW.PrintLast Go.Proofs.YtclomifkpciefaaW.PrintMore

theorem FnExactParseMoves : laws_FnExactParseMoves.Pure := by
  intro s _
  obtain ⟨l, rfl⟩ : ∃ l, s = tx l := ⟨s.data.toList, tx_of s⟩
  refine ⟨l.length + 3000, ?_⟩
  have hl := parsed_length l
  unfold laws_FnExactParseMoves.f
  by_cases h : ((tx l).size : Int) > 1048576
  · rw [if_pos h]
  rw [if_neg h, specParse (by omega), implParse (by omega)]
  simp only [Option.bind_some]
  rw [eqIntS (by omega) (by omega)]
  simp only [decide_true, Option.bind_some, if_true, bne_self_eq_false, laws_FnExactParseMoves.j0, laws_FnExactParseMoves.j1, Bool.false_eq_true, if_false]
  rw [markIntS (by omega) (by omega)]
  simp only [Option.bind_some]
  rw [heldIntS (by omega) (by omega)]
  simp only [Option.bind_some]
  rw [if_neg (by omega), if_pos trivial, implParse (by omega)]
  simp only [Option.bind_some]
  rw [eqIntS (by omega) (by omega)]
  simp only [decide_true, Option.bind_some, if_true, bne_self_eq_false, Bool.false_eq_true, if_false]
  rw [heldIntS (by omega) (by omega)]
  simp only [Option.bind_some]
  rw [if_neg (by omega), if_pos trivial]

end Go.Proofs.Ytclomifkpciefaa.Pure
