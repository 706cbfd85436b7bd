/- The law FnExactPlainSum, told over plain functions, holds for all arguments; no condition beyond the kinds of the numbers. -/
import Derived.Test.YtbbadgfmdpcloaaPFnExactPlainSumx1
namespace Go.Proofs.Ytbbadgfmdpcloaa.Pure
open Go.RowKit Go.Proofs.Ytbbadgfmdpcloaa.PFnExactPlainSum Go.Proofs.YtbbadgfmdpcloaaW.PrintWords Go.Proofs.YtbbadgfmdpcloaaW.PrintLast

theorem wf64 {a : Int} (h : (Lit.int .i64 a).wf = true) : -9223372036854775808 ≤ a ∧ a ≤ 9223372036854775807 := by
  simpa [Lit.wf, IntKind.min, IntKind.max, IntKind.bits, IntKind.signed] using h
theorem w64 {x : Int} (h0 : -9223372036854775808 ≤ x) (h1 : x ≤ 9223372036854775807) : wrap64 x = x := by unfold wrap64; omega
theorem tdiv2 {x : Int} (h : 0 ≤ x) (h1 : x ≤ 9223372036854775807) : wrap64 (Int.tdiv x 2) = x / 2 := by
  rw [Int.tdiv_eq_ediv_of_nonneg h]; exact w64 (by omega) (by omega)

theorem FnExactPlainSum : laws_FnExactPlainSum.Pure := by
  intro a0 a1 _ _
  have he : impl_PlainSum.f a0 a1 = spec_PlainSum.f a0 a1 := rfl
  have hs : ∃ r, spec_PlainSum.f a0 a1 = some r := by
    unfold spec_PlainSum.f spec_nuIs.f spec_l1In.f
    by_cases h0 : a0 ≥ 0 <;> by_cases h1 : a1 ≥ 0 <;> by_cases h2 : a0 ≤ 1000000000000 <;> by_cases h3 : a1 ≤ 1000000000000 <;> simp [h0, h1, h2, h3]
  obtain ⟨r, hr⟩ := hs
  unfold laws_FnExactPlainSum.f
  rw [he, hr]; simp

end Go.Proofs.Ytbbadgfmdpcloaa.Pure
