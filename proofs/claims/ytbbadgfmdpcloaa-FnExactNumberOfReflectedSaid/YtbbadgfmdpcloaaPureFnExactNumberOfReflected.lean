/- The law FnExactNumberOfReflected, told over plain functions, holds for all arguments; no condition beyond the kinds of the numbers. -/
import Derived.Test.YtbbadgfmdpcloaaPFnExactNumberOfReflectedx1
namespace Go.Proofs.Ytbbadgfmdpcloaa.Pure
open Go.RowKit Go.Proofs.Ytbbadgfmdpcloaa.PFnExactNumberOfReflected Go.Proofs.YtbbadgfmdpcloaaW.PrintWords Go.Proofs.YtbbadgfmdpcloaaW.PrintLast

theorem wf64 {a : Int} (h : (Lit.int .i64 a).wf = true) : -9223372036854775808 ≤ a ∧ a ≤ 9223372036854775807 := by
  simpa [Lit.wf, IntKind.min, IntKind.max, IntKind.bits, IntKind.signed] using h
theorem w64 {x : Int} (h0 : -9223372036854775808 ≤ x) (h1 : x ≤ 9223372036854775807) : wrap64 x = x := by unfold wrap64; omega
theorem tdiv2 {x : Int} (h : 0 ≤ x) (h1 : x ≤ 9223372036854775807) : wrap64 (Int.tdiv x 2) = x / 2 := by
  rw [Int.tdiv_eq_ediv_of_nonneg h]; exact w64 (by omega) (by omega)

theorem back_both (d : Nat) : ∀ (k : Nat) (x n : Int), 0 ≤ x → x < 2 ^ d → x ≤ 9223372036854775807 → d < k → ∃ r, spec_nuBack.l0 k x n = some r ∧ impl_unreflected.l0 k x n = some r := by
  induction d with
  | zero =>
    intro k x n h0 h1 h2 hk
    obtain ⟨k, rfl⟩ : ∃ m, k = m + 1 := ⟨k - 1, by omega⟩
    have : ¬ x > 0 := by simp at h1; omega
    exact ⟨n, by simp only [spec_nuBack.l0]; rw [if_neg this], by simp only [impl_unreflected.l0]; rw [if_neg this]⟩
  | succ d ih =>
    intro k x n h0 h1 h2 hk
    obtain ⟨k, rfl⟩ : ∃ m, k = m + 1 := ⟨k - 1, by omega⟩
    rw [Int.pow_succ] at h1
    by_cases hx : x > 0
    · obtain ⟨r, ha, hb⟩ := ih k (x / 2) (Go.bits .xor .i64 n x) (by omega) (by omega) (by omega) (by omega)
      exact ⟨r, by simp only [spec_nuBack.l0]; rw [if_pos hx]; exact ha, by simp only [impl_unreflected.l0]; rw [if_pos hx, tdiv2 h0 h2]; exact hb⟩
    · exact ⟨n, by simp only [spec_nuBack.l0]; rw [if_neg hx], by simp only [impl_unreflected.l0]; rw [if_neg hx]⟩
theorem FnExactNumberOfReflected : laws_FnExactNumberOfReflected.Pure := by
  intro a0 hw
  obtain ⟨hl, hu⟩ := wf64 hw
  refine ⟨65, ?_⟩
  by_cases h : 0 ≤ a0 ∧ a0 ≤ 1000000000000
  · obtain ⟨r, ha, hb⟩ := back_both 64 65 a0 0 h.1 (by omega) hu (by omega)
    unfold laws_FnExactNumberOfReflected.f spec_NumberOfReflected.f impl_NumberOfReflected.f spec_nuIs.f impl_isReflected.f spec_l1In.f impl_in.f spec_nuBack.f impl_unreflected.f
    rw [ha, hb]
    simp [h.1, h.2]
  · unfold laws_FnExactNumberOfReflected.f spec_NumberOfReflected.f impl_NumberOfReflected.f spec_nuIs.f impl_isReflected.f spec_l1In.f impl_in.f
    by_cases h0 : 0 ≤ a0
    · have h1 : ¬ a0 ≤ 1000000000000 := fun z => h ⟨h0, z⟩
      simp [h0, h1]
    · simp [h0]

end Go.Proofs.Ytbbadgfmdpcloaa.Pure
