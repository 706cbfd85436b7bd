/- The law FnExactMakePairMove, told over plain functions, holds for all arguments; no condition beyond the kinds of the numbers and the texts' sizes that any argument has. -/
import Derived.Test.YtgmmplcijhibgaaDoorAx2
import Derived.Test.YtgmmplcijhibgaaDoorPair
set_option linter.unusedVariables false
set_option linter.unusedSimpArgs false
namespace Go.Proofs.YtgmmplcijhibgaaDoor.Pure
open Go.RowKit Go.Proofs.YtgmmplcijhibgaaDoor.A Go.Proofs.YtgmmplcijhibgaaDoorW.PrintWords Go.Proofs.YtgmmplcijhibgaaDoorW.PrintLast Go.Proofs.YtgmmplcijhibgaaDoorW.PrintMore

theorem FnExactMakePairMove : laws_FnExactMakePairMove.Pure := by
  intro s a hs _
  refine ⟨200, ?_⟩
  unfold laws_FnExactMakePairMove.f
  by_cases hbig : (s.size : Int) > 1048576
  · rw [if_pos hbig]
  rw [if_neg hbig]
  suffices h : ∃ r : ByteArray × Bool, spec_MakePairMove.f 200 s a = some r ∧ impl_MakePairMove.f s a = some r by
    obtain ⟨r, h1, h2⟩ := h
    rw [h1, h2]
    simp
  unfold spec_MakePairMove.f impl_MakePairMove.f
  rcases pairCases s hs with ⟨bs, rfl, h1, h2, h⟩ | h
  · obtain ⟨g1, g2⟩ := h 200 (by omega)
    have hl := pairL_length bs
    rw [g1, g2, twMoves h1 (by omega) (by omega), canPair h1 (by omega)]
    simp only [Option.bind_some, if_true]
    rw [l1Has (by omega) a (by omega), mem_pairL (by omega)]
    cases q : canP bs a
    · exact ⟨_, rfl, rfl⟩
    · obtain ⟨m1, m2⟩ := twMake h1 (by omega) q
      rw [m1, m2]
      exact ⟨_, rfl, rfl⟩
  · obtain ⟨g1, g2⟩ := h 200 (by omega)
    rw [g1, g2]
    exact ⟨_, rfl, rfl⟩

end Go.Proofs.YtgmmplcijhibgaaDoor.Pure
