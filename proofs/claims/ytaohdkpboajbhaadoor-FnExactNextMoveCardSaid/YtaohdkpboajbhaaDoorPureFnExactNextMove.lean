/- The law FnExactNextMove, told over plain functions, holds for all arguments; no condition beyond the kinds of the numbers and the texts' sizes that any argument has. -/
import Derived.Test.YtaohdkpboajbhaaDoorAx8
import Derived.Test.YtaohdkpboajbhaaDoorNext
set_option linter.unusedVariables false
set_option linter.unusedSimpArgs false
namespace Go.Proofs.YtaohdkpboajbhaaDoor.Pure
open Go.RowKit Go.Proofs.YtaohdkpboajbhaaDoor.A Go.Proofs.YtaohdkpboajbhaaDoorW.PrintWords Go.Proofs.YtaohdkpboajbhaaDoorW.PrintLast Go.Proofs.YtaohdkpboajbhaaDoorW.PrintMore

theorem FnExactNextMove : laws_FnExactNextMove.Pure := by
  intro s t hs ht
  refine ⟨200, ?_⟩
  unfold laws_FnExactNextMove.f
  by_cases hbig : (s.size : Int) > 1048576
  · rw [if_pos hbig]
  rw [if_neg hbig]
  by_cases hbig2 : (t.size : Int) > 1048576
  · rw [if_pos hbig2]
  rw [if_neg hbig2]
  suffices h : ∃ r : Int × Bool, spec_NextMove.f 200 s t = some r ∧ impl_NextMove.f 200 s t = some r by
    obtain ⟨r, h1, h2⟩ := h
    rw [h1, h2]
    simp
  unfold spec_NextMove.f impl_NextMove.f
  rcases twoCases s t hs ht with ⟨a, b, rfl, rfl, ha, hb⟩ | h
  · obtain ⟨h1, h2⟩ := two_sb (k := 200) ha (b := b) (by omega) (by omega)
    rw [h1, h2, hb]
    simp only [beq_self_eq_true, Option.bind_some, if_true, spec_NextMove.j0, impl_NextMove.j0, sb_toList]
    by_cases e : a = b
    · subst e
      refine ⟨(0, false), by simp, by simp⟩
    · have hne : ((a.map sg) == (b.map sg)) = false := by
        rw [beq_eq_false_iff_ne]; exact fun h => e (map_sg_inj h)
      have la := M.num_lt a
      have lb := M.num_lt b
      rw [hb] at lb
      have hnn : M.num a ≠ M.num b := fun h => e (M.num_inj hb.symm h)
      rw [hne, riNext (by omega) hb e (by omega), number (by omega) (by omega), number (by omega) (by omega)]
      simp only [Option.bind_some, Bool.false_eq_true, if_false]
      rw [next (num_small (by omega)) (num_small (by omega)) hnn (by omega)]
      have hl := rng_lt la lb hnn
      rw [riDiffers hl (by omega)]
      exact ⟨_, rfl, rfl⟩
  · obtain ⟨h1, h2⟩ := h 200 (by omega)
    rw [h1, h2]
    exact ⟨(0, false), by simp [spec_NextMove.j0], by simp [impl_NextMove.j0]⟩

end Go.Proofs.YtaohdkpboajbhaaDoor.Pure
