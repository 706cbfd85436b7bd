/- The law FnExactPairMovesOf, told over plain functions, holds for all arguments; no condition beyond the kinds of the numbers and the texts' sizes that any argument has. -/
import Derived.Test.YtgmmplcijhibgaaDoorAx2
import Derived.Test.YtgmmplcijhibgaaDoorAx3
import Derived.Test.YtgmmplcijhibgaaDoorPair
set_option linter.unusedVariables false
set_option linter.unusedSimpArgs false
namespace Go.Proofs.YtgmmplcijhibgaaDoor.Pure
open Go.RowKit Go.Proofs.YtgmmplcijhibgaaDoor.A Go.Proofs.YtgmmplcijhibgaaDoorW.PrintWords Go.Proofs.YtgmmplcijhibgaaDoorW.PrintLast Go.Proofs.YtgmmplcijhibgaaDoorW.PrintMore

theorem FnExactPairMovesOf : laws_FnExactPairMovesOf.Pure := by
  intro s hs
  refine ⟨200, ?_⟩
  unfold laws_FnExactPairMovesOf.f
  by_cases hbig : (s.size : Int) > 1048576
  · rw [if_pos hbig]
  rw [if_neg hbig]
  suffices h : ∃ r : List Int × Bool, r.1.length ≤ 40 ∧ (∀ k, 190 < k → spec_PairMovesOf.f k s = some r ∧ impl_PairMovesOf.f k s = some r) by
    obtain ⟨r, hr, h⟩ := h
    have hE : ∀ k, 41 < k → laws_eqIntS.f k r.1 r.1 = some true := fun k hk => by rw [eqIntS (by omega) (by omega)]; simp
    rw [(h 200 (by omega)).1, (h 200 (by omega)).2]
    simp only [Option.bind_some, hE 200 (by omega), if_true, bne_self_eq_false]
    rw [laws_FnExactPairMovesOf.j0, markIntS (by omega) (by omega)]
    simp only [Option.bind_some, Bool.false_eq_true, if_false]
    rw [heldIntS (by omega) (by omega), (h 199 (by omega)).2]
    have hn : ¬ (1 + (r.1.length : Int)) < 0 := by omega
    simp only [Option.bind_some, hn, if_false, if_true, hE 199 (by omega), bne_self_eq_false]
    rw [laws_FnExactPairMovesOf.j1, heldIntS (by omega) (by omega)]
    simp [hn]
  rcases pairCases s hs with ⟨bs, rfl, h1, h2, h⟩ | h
  · have hl := pairL_length bs
    refine ⟨(pairL bs, true), by show (pairL bs).length ≤ 40; omega, fun k hk => ?_⟩
    obtain ⟨g1, g2⟩ := h k (by omega)
    unfold spec_PairMovesOf.f impl_PairMovesOf.f
    rw [g1, g2, twMoves h1 (by omega) (by omega), pairMoves h1 (by omega) (by omega)]
    exact ⟨rfl, rfl⟩
  · refine ⟨([], false), by simp, fun k hk => ?_⟩
    obtain ⟨g1, g2⟩ := h k (by omega)
    unfold spec_PairMovesOf.f impl_PairMovesOf.f
    rw [g1, g2]
    exact ⟨rfl, rfl⟩

end Go.Proofs.YtgmmplcijhibgaaDoor.Pure
