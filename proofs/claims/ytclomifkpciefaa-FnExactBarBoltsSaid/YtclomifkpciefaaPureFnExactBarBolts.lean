/- The law FnExactBarBolts, told over plain functions, holds for all arguments; no condition beyond the kinds of the numbers. -/
import Derived.Test.YtclomifkpciefaaAx1
import Derived.Test.YtclomifkpciefaaAx2
import Derived.Test.YtclomifkpciefaaAx7
import Derived.Test.YtclomifkpciefaaAx8
import Derived.Test.YtclomifkpciefaaAx9
set_option linter.unusedVariables false
set_option linter.unusedSimpArgs false
namespace Go.Proofs.Ytclomifkpciefaa.Pure
open Go.RowKit Go.Proofs.Ytclomifkpciefaa.A Go.Proofs.YtclomifkpciefaaW.PrintWords Go.Proofs.YtclomifkpciefaaW.PrintLast Go.Proofs.YtclomifkpciefaaW.PrintMore

theorem FnExactBarBolts : laws_FnExactBarBolts.Pure := by
  intro a0 _
  refine ⟨100, ?_⟩
  by_cases h : 2 ≤ a0 ∧ a0 ≤ 6
  · obtain ⟨n, rfl⟩ := Int.eq_ofNat_of_zero_le (show 0 ≤ a0 by omega)
    have hall : ((List.range 7).all fun n => if 2 ≤ n then decide (laws_FnExactBarBolts.f 100 (n : Int) = some true) else true) = true := by decide +kernel
    rw [List.all_eq_true] at hall
    have := hall n (by simp; omega)
    rw [if_pos (by omega)] at this
    simpa using this
  · have h1 : spec_BarBolts.f 100 a0 = some ([], [], false) := by
      unfold spec_BarBolts.f spec_l1In.f
      by_cases q : a0 ≥ 2
      · have : ¬ a0 ≤ 6 := fun z => h ⟨q, z⟩
        simp [q, this]
      · simp [q]
    have h2 : impl_BarBolts.f 99 a0 = some ([], [], false) ∧ impl_BarBolts.f 100 a0 = some ([], [], false) := by
      unfold impl_BarBolts.f impl_in.f
      by_cases q : a0 ≥ 2
      · have : ¬ a0 ≤ 6 := fun z => h ⟨q, z⟩
        simp [q, this]
      · simp [q]
    have e1 : laws_eqBolts.f 100 [] [] [] [] = some true := by decide +kernel
    have e2 : laws_eqBolts.f 99 [] [] [] [] = some true := by decide +kernel
    have e3 : laws_markBolts.f 99 [] [] 1 = some (1, [], []) := by rfl
    have e4 : laws_heldBolts.f 99 [] [] 1 = some 1 := by rfl
    have e5 : laws_heldBolts.f 98 [] [] 1 = some 1 := by rfl
    unfold laws_FnExactBarBolts.f
    rw [h1, h2.2]
    simp only [Option.bind_some, e1, if_true, bne_self_eq_false, laws_FnExactBarBolts.j0, laws_FnExactBarBolts.j1, Bool.false_eq_true, if_false, e3, e4, h2.1, e2, e5]
    rfl

end Go.Proofs.Ytclomifkpciefaa.Pure
