/- The law FnExactFewestMoves, told over plain functions, holds for all arguments; no condition beyond the kinds of the numbers and the texts' sizes that any argument has. -/
import Derived.Test.YtaohdkpboajbhaaDoorAx1
import Derived.Test.YtaohdkpboajbhaaDoorAx3
import Derived.Test.YtaohdkpboajbhaaDoorAx4
import Derived.Test.YtaohdkpboajbhaaDoorRing
set_option linter.unusedVariables false
set_option linter.unusedSimpArgs false
namespace Go.Proofs.YtaohdkpboajbhaaDoor.Pure
open Go.RowKit Go.Proofs.YtaohdkpboajbhaaDoor.A Go.Proofs.YtaohdkpboajbhaaDoorW.PrintWords Go.Proofs.YtaohdkpboajbhaaDoorW.PrintLast Go.Proofs.YtaohdkpboajbhaaDoorW.PrintMore

theorem FnExactFewestMoves : laws_FnExactFewestMoves.Pure := by
  intro s t hs ht
  refine ⟨100, ?_⟩
  unfold laws_FnExactFewestMoves.f spec_FewestMoves.f impl_FewestMoves.f
  rcases twoCases s t hs ht with ⟨a, b, rfl, rfl, ha, hb⟩ | h
  · obtain ⟨h1, h2⟩ := two_sb (k := 100) ha (b := b) (by omega) (by omega)
    have na := num_small (bs := a) (by omega)
    have nb := num_small (bs := b) (by omega)
    rw [h1, h2, hb, riNumber (by omega) (by omega), riNumber (by omega) (by omega), number (by omega) (by omega), number (by omega) (by omega)]
    have e : spec_l1Abs.f (wrap64 ((M.num a : Int) - (M.num b : Int))) = impl_apart.f (M.num a : Int) (M.num b : Int) := by
      unfold spec_l1Abs.f spec_l1Most.f impl_apart.f mx
      rw [w64 (x := (M.num a : Int) - (M.num b : Int)) (by omega) (by omega), w64 (x := -((M.num a : Int) - (M.num b : Int))) (by omega) (by omega), w64 (x := (M.num b : Int) - (M.num a : Int)) (by omega) (by omega)]
      split <;> split <;> simp only [Option.bind_some] <;> congr 1 <;> omega
    simp only [beq_self_eq_true, Option.bind_some, if_true, e]
    unfold impl_apart.f
    simp
  · obtain ⟨h1, h2⟩ := h 100 (by omega)
    rw [h1, h2]
    simp

end Go.Proofs.YtaohdkpboajbhaaDoor.Pure
