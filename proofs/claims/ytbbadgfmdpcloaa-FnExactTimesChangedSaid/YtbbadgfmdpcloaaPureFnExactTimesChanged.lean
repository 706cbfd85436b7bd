/- The law FnExactTimesChanged, told over plain functions, holds for all arguments; no condition beyond the kinds of the numbers. -/
import Derived.Test.YtbbadgfmdpcloaaPFnExactTimesChangedx1
namespace Go.Proofs.Ytbbadgfmdpcloaa.Pure
open Go.RowKit Go.Proofs.Ytbbadgfmdpcloaa.PFnExactTimesChanged Go.Proofs.YtbbadgfmdpcloaaW.PrintWords Go.Proofs.YtbbadgfmdpcloaaW.PrintLast

theorem wf64 {a : Int} (h : (Lit.int .i64 a).wf = true) : -9223372036854775808 ≤ a ∧ a ≤ 9223372036854775807 := by
  simpa [Lit.wf, IntKind.min, IntKind.max, IntKind.bits, IntKind.signed] using h
theorem w64 {x : Int} (h0 : -9223372036854775808 ≤ x) (h1 : x ≤ 9223372036854775807) : wrap64 x = x := by unfold wrap64; omega
theorem tdiv2 {x : Int} (h : 0 ≤ x) (h1 : x ≤ 9223372036854775807) : wrap64 (Int.tdiv x 2) = x / 2 := by
  rw [Int.tdiv_eq_ediv_of_nonneg h]; exact w64 (by omega) (by omega)

theorem FnExactTimesChanged : laws_FnExactTimesChanged.Pure := by
  intro a0 a1 a2 _ _ _
  refine ⟨1, ?_⟩
  have he : impl_TimesChanged.f 1 a0 a1 a2 = spec_TimesChanged.f 1 a0 a1 a2 := rfl
  have ht : ∀ x, 0 ≤ a2 → a2 ≤ 50 → ∃ r, spec_nuTimes.f x a2 = some r := by
    intro x h0 h1
    unfold spec_nuTimes.f
    rw [w64 (by omega) (by omega), if_pos h0, if_pos (by omega)]
    exact ⟨_, rfl⟩
  have hs : ∃ r, spec_TimesChanged.f 1 a0 a1 a2 = some r := by
    unfold spec_TimesChanged.f spec_TimesChanged.j0 spec_nuIs.f spec_l1In.f
    by_cases h6 : a0 > a1
    · by_cases h0 : a0 ≥ 0 <;> by_cases h1 : a1 ≥ 0 <;> by_cases h2 : a0 ≤ 1000000000000 <;> by_cases h3 : a1 ≤ 1000000000000 <;> simp [h0, h1, h2, h3, h6]
    · by_cases h4 : a2 ≥ 0
      · by_cases h5 : a2 ≤ 50
        · obtain ⟨x, hx⟩ := ht a0 h4 h5
          obtain ⟨y, hy⟩ := ht a1 h4 h5
          by_cases h0 : a0 ≥ 0 <;> by_cases h1 : a1 ≥ 0 <;> by_cases h2 : a0 ≤ 1000000000000 <;> by_cases h3 : a1 ≤ 1000000000000 <;> simp [h0, h1, h2, h3, h4, h5, h6, hx, hy]
        · by_cases h0 : a0 ≥ 0 <;> by_cases h1 : a1 ≥ 0 <;> by_cases h2 : a0 ≤ 1000000000000 <;> by_cases h3 : a1 ≤ 1000000000000 <;> simp [h0, h1, h2, h3, h4, h5, h6]
      · by_cases h0 : a0 ≥ 0 <;> by_cases h1 : a1 ≥ 0 <;> by_cases h2 : a0 ≤ 1000000000000 <;> by_cases h3 : a1 ≤ 1000000000000 <;> simp [h0, h1, h2, h3, h4, h6]
  obtain ⟨r, hr⟩ := hs
  unfold laws_FnExactTimesChanged.f
  rw [he, hr]; simp

end Go.Proofs.Ytbbadgfmdpcloaa.Pure
