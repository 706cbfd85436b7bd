/- The law FnExactCountChoices, told over plain functions, holds for all arguments; no condition beyond the kinds of the numbers. -/
import Derived.Test.YtbbadgfmdpcloaaPFnExactCountChoicesx1
namespace Go.Proofs.Ytbbadgfmdpcloaa.Pure
open Go.RowKit Go.Proofs.Ytbbadgfmdpcloaa.PFnExactCountChoices Go.Proofs.YtbbadgfmdpcloaaW.PrintWords Go.Proofs.YtbbadgfmdpcloaaW.PrintLast

theorem wf64 {a : Int} (h : (Lit.int .i64 a).wf = true) : -9223372036854775808 ≤ a ∧ a ≤ 9223372036854775807 := by
  simpa [Lit.wf, IntKind.min, IntKind.max, IntKind.bits, IntKind.signed] using h
theorem w64 {x : Int} (h0 : -9223372036854775808 ≤ x) (h1 : x ≤ 9223372036854775807) : wrap64 x = x := by unfold wrap64; omega
theorem tdiv2 {x : Int} (h : 0 ≤ x) (h1 : x ≤ 9223372036854775807) : wrap64 (Int.tdiv x 2) = x / 2 := by
  rw [Int.tdiv_eq_ediv_of_nonneg h]; exact w64 (by omega) (by omega)

theorem choices_all : ((List.range 21).all fun s => (List.range 21).all fun c => if c ≤ s then decide (spec_nuChoices.f 30 (s : Int) (c : Int) = impl_chosen.f 30 (s : Int) (c : Int)) && (spec_nuChoices.f 30 (s : Int) (c : Int)).isSome else true) = true := by decide +kernel
theorem FnExactCountChoices : laws_FnExactCountChoices.Pure := by
  intro a0 a1 _ _
  refine ⟨30, ?_⟩
  unfold laws_FnExactCountChoices.f spec_CountChoices.f impl_CountChoices.f spec_nuSize.f impl_isSize.f spec_l1In.f impl_in.f
  by_cases h : (1 ≤ a0 ∧ a0 ≤ 20) ∧ 0 ≤ a1 ∧ a1 ≤ a0
  · obtain ⟨⟨h1, h2⟩, h3, h4⟩ := h
    obtain ⟨s, rfl⟩ := Int.eq_ofNat_of_zero_le (show 0 ≤ a0 by omega)
    obtain ⟨c, rfl⟩ := Int.eq_ofNat_of_zero_le h3
    have := choices_all
    rw [List.all_eq_true] at this
    have := this s (by simp; omega)
    rw [List.all_eq_true] at this
    have := this c (by simp; omega)
    rw [if_pos (by omega)] at this
    simp only [Bool.and_eq_true, decide_eq_true_eq] at this
    obtain ⟨he, hs⟩ := this
    obtain ⟨r, hr⟩ := Option.isSome_iff_exists.1 hs
    rw [hr] at he
    simp [h1, h2, h3, h4, hr, ← he]
  · by_cases h1 : 1 ≤ a0
    · by_cases h2 : a0 ≤ 20
      · by_cases h3 : 0 ≤ a1
        · have h4 : ¬ a1 ≤ a0 := fun z => h ⟨⟨h1, h2⟩, h3, z⟩
          simp [h1, h2, h3, h4]
        · simp [h1, h2, h3]
      · simp [h1, h2]
    · simp [h1]

end Go.Proofs.Ytbbadgfmdpcloaa.Pure
