/- The law FnExactAreBolts, told over plain functions, holds for all arguments whose rows are no longer than a row can be. -/
import Derived.Test.YtclomifkpciefaaCx0
import Derived.Test.YtclomifkpciefaaCx4
import Derived.Test.YtclomifkpciefaaCx6
import Derived.Test.YtclomifkpciefaaCBolts
set_option linter.unusedVariables false
set_option linter.unusedSimpArgs false
namespace Go.Proofs.Ytclomifkpciefaa.Pure
open Go.RowKit Go.Proofs.Ytclomifkpciefaa.C Go.Proofs.YtclomifkpciefaaW.PrintWords Go.Proofs.YtclomifkpciefaaW.PrintLast Go.Proofs.YtclomifkpciefaaW.PrintMore

theorem FnExactAreBolts (l0 : List Int) (l1 : List S91) (h0 : l0.length ≤ maxLen) (h1 : l1.length ≤ maxLen) : ∃ k, laws_FnExactAreBolts.f k l0 l1 = some true := by
  obtain ⟨t, ht, hc⟩ := szBolts l0 l1 h0 h1
  refine ⟨l0.length + l1.length + 100, ?_⟩
  unfold laws_FnExactAreBolts.f spec_AreBolts.f
  rw [ht]
  simp only [Option.bind_some]
  rcases hc with hc | ⟨hc, hl⟩
  · rw [if_pos hc]
  · rw [if_neg (by omega), toBolts (by omega) (by omega) (by omega)]
    simp only [Option.bind_some]
    rw [boGood (by omega) (by rw [List.length_map]; omega) (by rw [List.length_map]; omega), areBolts (by omega) (by omega)]
    simp only [Option.bind_some, bne_self_eq_false, Bool.false_eq_true, if_false]
    rw [eqBolts (by omega) (by rw [List.length_map]; omega) (by rw [List.length_map]; omega)]
    simp

end Go.Proofs.Ytclomifkpciefaa.Pure
