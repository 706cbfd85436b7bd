/- The law FnExactReflectedOf, told over plain functions, holds for all arguments; no condition beyond the kinds of the numbers. -/
import Derived.Test.YtbbadgfmdpcloaaPFnExactReflectedOfx1
namespace Go.Proofs.Ytbbadgfmdpcloaa.Pure
open Go.RowKit Go.Proofs.Ytbbadgfmdpcloaa.PFnExactReflectedOf Go.Proofs.YtbbadgfmdpcloaaW.PrintWords Go.Proofs.YtbbadgfmdpcloaaW.PrintLast

theorem wf64 {a : Int} (h : (Lit.int .i64 a).wf = true) : -9223372036854775808 ≤ a ∧ a ≤ 9223372036854775807 := by
  simpa [Lit.wf, IntKind.min, IntKind.max, IntKind.bits, IntKind.signed] using h
theorem w64 {x : Int} (h0 : -9223372036854775808 ≤ x) (h1 : x ≤ 9223372036854775807) : wrap64 x = x := by unfold wrap64; omega
theorem tdiv2 {x : Int} (h : 0 ≤ x) (h1 : x ≤ 9223372036854775807) : wrap64 (Int.tdiv x 2) = x / 2 := by
  rw [Int.tdiv_eq_ediv_of_nonneg h]; exact w64 (by omega) (by omega)

theorem FnExactReflectedOf : laws_FnExactReflectedOf.Pure := by
  intro a0 _
  have he : impl_ReflectedOf.f a0 = spec_ReflectedOf.f a0 := by
    unfold impl_ReflectedOf.f spec_ReflectedOf.f spec_nuOf.f impl_isReflected.f spec_nuIs.f spec_l1In.f impl_in.f
    by_cases h0 : a0 ≥ 0 <;> by_cases h2 : a0 ≤ 1000000000000 <;> simp [h0, h2]
    rw [tdiv2 (by omega) (by omega)]
  have hs : ∃ r, spec_ReflectedOf.f a0 = some r := by
    unfold spec_ReflectedOf.f spec_nuOf.f spec_nuIs.f spec_l1In.f
    by_cases h0 : a0 ≥ 0 <;> by_cases h2 : a0 ≤ 1000000000000 <;> simp [h0, h2]
  obtain ⟨r, hr⟩ := hs
  unfold laws_FnExactReflectedOf.f
  rw [he, hr]; simp

end Go.Proofs.Ytbbadgfmdpcloaa.Pure
