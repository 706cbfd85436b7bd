/- The law FnExactMiddleOf, told over plain functions, holds for all arguments; no condition beyond the kinds of the numbers and the texts' sizes that any argument has. -/
import Derived.Test.YtaohdkpboajbhaaDoorAx4
import Derived.Test.YtaohdkpboajbhaaDoorRing
set_option linter.unusedVariables false
set_option linter.unusedSimpArgs false
namespace Go.Proofs.YtaohdkpboajbhaaDoor.Pure
open Go.RowKit Go.Proofs.YtaohdkpboajbhaaDoor.A Go.Proofs.YtaohdkpboajbhaaDoorW.PrintWords Go.Proofs.YtaohdkpboajbhaaDoorW.PrintLast Go.Proofs.YtaohdkpboajbhaaDoorW.PrintMore

theorem FnExactMiddleOf : laws_FnExactMiddleOf.Pure := by
  intro s t hs ht
  refine ⟨100, ?_⟩
  unfold laws_FnExactMiddleOf.f spec_MiddleOf.f impl_MiddleOf.f
  rcases twoCases s t hs ht with ⟨a, b, rfl, rfl, ha, hb⟩ | h
  · obtain ⟨h1, h2⟩ := two_sb (k := 100) ha (b := b) (by omega) (by omega)
    have na := num_small (bs := a) (by omega)
    have nb := num_small (bs := b) (by omega)
    rw [h1, h2, hb, riNumber (by omega) (by omega), riNumber (by omega) (by omega), number (by omega) (by omega), number (by omega) (by omega)]
    simp only [beq_self_eq_true, Option.bind_some, if_true, impl_apart.f, sb_size]
    have hno : ¬ ((b.length : Int) > 1048576) := by omega
    rw [w64 (x := (M.num b : Int) - (M.num a : Int)) (by omega) (by omega), w64 (x := (M.num a : Int) - (M.num b : Int)) (by omega) (by omega)]
    by_cases q : M.num a < M.num b
    · have e1 : wrap64 ((M.num a : Int) + wrap64 (Int.tdiv ((M.num b : Int) - (M.num a : Int)) 2)) = ((M.num a + (M.num b - M.num a) / 2 : Nat) : Int) := by
        rw [tdiv2 (by omega) (by omega), w64 (by omega) (by omega)]; omega
      have e2 : mx ((M.num a : Int) - (M.num b : Int)) ((M.num b : Int) - (M.num a : Int)) = (M.num b : Int) - (M.num a : Int) := by unfold mx; rw [if_pos (by omega)]
      have q' : (M.num a : Int) < (M.num b : Int) := by omega
      simp only [hno, if_false, q', if_true, e2, e1, Option.bind_some]
      rw [riState (by omega) (by omega) (by omega), state (by omega) (by omega) (by omega)]
      simp
    · have q' : ¬ (M.num a : Int) < (M.num b : Int) := by omega
      have e0 : Int.tdiv ((M.num b : Int) - (M.num a : Int)) 2 = -(((M.num a - M.num b) / 2 : Nat) : Int) := by
        rw [show (M.num b : Int) - (M.num a : Int) = -((M.num a - M.num b : Nat) : Int) by omega, Int.neg_tdiv, Int.tdiv_eq_ediv_of_nonneg (by omega)]; omega
      have e1 : wrap64 ((M.num a : Int) + wrap64 (Int.tdiv ((M.num b : Int) - (M.num a : Int)) 2)) = ((M.num a - (M.num a - M.num b) / 2 : Nat) : Int) := by
        rw [e0, w64 (x := -(((M.num a - M.num b) / 2 : Nat) : Int)) (by omega) (by omega), w64 (by omega) (by omega)]; omega
      have e2 : mx ((M.num a : Int) - (M.num b : Int)) ((M.num b : Int) - (M.num a : Int)) = (M.num a : Int) - (M.num b : Int) := by unfold mx; rw [if_neg (by omega)]
      have e3 : wrap64 ((M.num a : Int) - wrap64 (Int.tdiv ((M.num a : Int) - (M.num b : Int)) 2)) = ((M.num a - (M.num a - M.num b) / 2 : Nat) : Int) := by
        rw [tdiv2 (by omega) (by omega), w64 (by omega) (by omega)]; omega
      simp only [hno, if_false, q', e2, e1, e3, Option.bind_some]
      rw [riState (by omega) (by omega) (by omega), state (by omega) (by omega) (by omega)]
      simp
  · obtain ⟨h1, h2⟩ := h 100 (by omega)
    rw [h1, h2]
    simp

end Go.Proofs.YtaohdkpboajbhaaDoor.Pure
