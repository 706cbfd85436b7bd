/- The law FnExactCountAllowed, told over plain functions, holds for all arguments whose rows are no longer than a row can be. -/
import Derived.Test.YtpbgloppcenljaaAx0
import Derived.Test.YtpbgloppcenljaaAx4
import Derived.Test.YtpbgloppcenljaaAx7
import Derived.Test.YtpbgloppcenljaaAx9
import Derived.Test.YtpbgloppcenljaaStates
set_option linter.unusedVariables false
set_option linter.unusedSimpArgs false
namespace Go.Proofs.Ytpbgloppcenljaa.Pure
open Go.RowKit Go.Proofs.Ytpbgloppcenljaa.A Go.Proofs.YtpbgloppcenljaaW.PrintWords Go.Proofs.YtpbgloppcenljaaW.PrintLast Go.Proofs.YtpbgloppcenljaaW.PrintMore

theorem countBoth (l0 : List Int) (l1 : List S56) (h0 : l0.length ≤ 1048576) (h1 : l1.length ≤ 1048576) : ∃ (r : Int) (b : Bool), ∀ k, l0.length + l1.length + 1300020 < k → spec_CountAllowed.f k l0 l1 = some (r, b) ∧ impl_CountAllowed.f k l0 l1 = some (r, b) := by
  cases hg : gd l0 l1 with
  | false =>
    refine ⟨0, false, fun k hk => ?_⟩
    unfold spec_CountAllowed.f impl_CountAllowed.f
    rw [boGood (by omega) (by omega) (by omega), areBolts (by omega) (by omega), hg]
    exact ⟨rfl, rfl⟩
  | true =>
    obtain ⟨R, _, H⟩ := statesBoth hg
    refine ⟨(R.length : Int), true, fun k hk => ?_⟩
    unfold spec_CountAllowed.f impl_CountAllowed.f
    rw [boGood (by omega) (by omega) (by omega), areBolts (by omega) (by omega), hg, (H k (by omega)).1, (H k (by omega)).2]
    exact ⟨rfl, rfl⟩
theorem FnExactCountAllowed (l0 : List Int) (l1 : List S61) (h0 : l0.length ≤ maxLen) (h1 : l1.length ≤ maxLen) : ∃ k, laws_FnExactCountAllowed.f k l0 l1 = some true := by
  obtain ⟨t, ht, hc⟩ := szBolts l0 l1 h0 h1
  obtain ⟨K, hK⟩ : ∃ K, K = l0.length + l1.length + 1300100 := ⟨_, rfl⟩
  refine ⟨K + 1, ?_⟩
  unfold laws_FnExactCountAllowed.f
  rw [ht]
  simp only [Option.bind_some]
  rcases hc with hc | ⟨hc, hl⟩
  · rw [if_pos hc]
  · obtain ⟨r, b, H⟩ := countBoth l0 (l1.map cv) (by omega) (by rw [List.length_map]; omega)
    rw [List.length_map] at H
    rw [if_neg (by omega), toBolts (by omega) (by omega) (by omega)]
    simp only [Option.bind_some]
    rw [(H _ (by omega)).1, (H _ (by omega)).2]
    simp only [Option.bind_some, bne_self_eq_false, if_true, laws_FnExactCountAllowed.j0, Bool.false_eq_true, if_false]
    rw [toBolts (by omega) (by omega) (by omega)]
    simp only [Option.bind_some]
    rw [eqBolts (by omega) (by rw [List.length_map]; omega) (by rw [List.length_map]; omega)]
    simp

end Go.Proofs.Ytpbgloppcenljaa.Pure
