/- The law FnExactChangedDigit, told over plain functions, holds for all arguments; no condition beyond the kinds of the numbers. -/
import Derived.Test.YtbbadgfmdpcloaaPFnExactChangedDigitx1
namespace Go.Proofs.Ytbbadgfmdpcloaa.Pure
open Go.RowKit Go.Proofs.Ytbbadgfmdpcloaa.PFnExactChangedDigit Go.Proofs.YtbbadgfmdpcloaaW.PrintWords Go.Proofs.YtbbadgfmdpcloaaW.PrintLast

theorem wf64 {a : Int} (h : (Lit.int .i64 a).wf = true) : -9223372036854775808 ≤ a ∧ a ≤ 9223372036854775807 := by
  simpa [Lit.wf, IntKind.min, IntKind.max, IntKind.bits, IntKind.signed] using h
theorem w64 {x : Int} (h0 : -9223372036854775808 ≤ x) (h1 : x ≤ 9223372036854775807) : wrap64 x = x := by unfold wrap64; omega
theorem tdiv2 {x : Int} (h : 0 ≤ x) (h1 : x ≤ 9223372036854775807) : wrap64 (Int.tdiv x 2) = x / 2 := by
  rw [Int.tdiv_eq_ediv_of_nonneg h]; exact w64 (by omega) (by omega)

theorem and1 {x : Int} (h0 : 0 ≤ x) (h1 : x < 2 ^ 63) : Go.bits .and .i64 x 1 = x % 2 := by
  have := Go.bits_mask .i64 63 (by decide) (fun n h0 h1 => by rw [IntKind.wrap_i64]; omega) 1 (by decide) x h0 h1
  simpa using this
theorem shr_eq {x y : Int} (h : y ≤ 64) : shr .i64 x y = x / 2 ^ y.toNat := (shr_small rfl h).symm
theorem digit_both (a : Int) (ha : 0 ≤ a) (hb : a ≤ 1000000000000) (d : Nat) : ∀ (k c : Nat), d + c = 60 → a / 2 ^ c < 2 ^ d → d < k →
    ∃ r : Int, spec_nuChanged.l0 k a c = some r ∧ impl_zeros.l0 k (a / 2 ^ c + 1) c = some r := by
  induction d with
  | zero =>
    intro k c hd h1 hk
    obtain ⟨k, rfl⟩ : ∃ m, k = m + 1 := ⟨k - 1, by omega⟩
    have h0 : 0 ≤ a / 2 ^ c := Int.ediv_nonneg ha (Int.pow_nonneg (by decide))
    have hz : a / 2 ^ c = 0 := by simp at h1; omega
    refine ⟨c, ?_, ?_⟩
    · simp only [spec_nuChanged.l0]; rw [if_pos (by omega), shr_eq (by omega), Int.toNat_natCast, hz, and1 (by decide) (by decide), if_neg (by decide)]
    · simp only [impl_zeros.l0]; rw [hz, if_neg (by decide)]
  | succ d ih =>
    intro k c hd h1 hk
    obtain ⟨k, rfl⟩ : ∃ m, k = m + 1 := ⟨k - 1, by omega⟩
    have h0 : 0 ≤ a / 2 ^ c := Int.ediv_nonneg ha (Int.pow_nonneg (by decide))
    have hle : a / 2 ^ c ≤ a := Int.ediv_le_self _ ha
    have e : a / 2 ^ (c + 1) = a / 2 ^ c / 2 := by rw [Int.pow_succ, Int.ediv_ediv_of_nonneg (Int.pow_nonneg (by decide))]
    rw [Int.pow_succ] at h1
    by_cases hodd : a / 2 ^ c % 2 = 1
    · obtain ⟨r, hp, hq⟩ := ih k (c + 1) (by omega) (by rw [e]; omega) (by omega)
      refine ⟨r, ?_, ?_⟩
      · simp only [spec_nuChanged.l0]; rw [if_pos (by omega), shr_eq (by omega), Int.toNat_natCast, and1 h0 (by omega), if_pos hodd, w64 (by omega) (by omega)]; exact hp
      · simp only [impl_zeros.l0]
        rw [Int.tmod_eq_emod_of_nonneg (by omega), if_pos (by omega), tdiv2 (by omega) (by omega), w64 (by omega) (by omega)]
        rw [e] at hq
        have : (a / 2 ^ c + 1) / 2 = a / 2 ^ c / 2 + 1 := by omega
        rw [this]; exact hq
    · refine ⟨c, ?_, ?_⟩
      · simp only [spec_nuChanged.l0]; rw [if_pos (by omega), shr_eq (by omega), Int.toNat_natCast, and1 h0 (by omega), if_neg hodd]
      · simp only [impl_zeros.l0]
        rw [Int.tmod_eq_emod_of_nonneg (by omega), if_neg (by omega)]
theorem FnExactChangedDigit : laws_FnExactChangedDigit.Pure := by
  intro a0 hw
  refine ⟨65, ?_⟩
  by_cases h : 0 ≤ a0 ∧ a0 ≤ 1000000000000
  · obtain ⟨r, ha, hb⟩ := digit_both a0 h.1 h.2 60 65 0 (by omega) (by simp; omega) (by omega)
    simp only [Int.pow_zero, Int.ediv_one, Int.natCast_zero] at ha hb
    unfold laws_FnExactChangedDigit.f spec_ChangedDigit.f impl_ChangedDigit.f spec_nuIs.f impl_isReflected.f spec_l1In.f impl_in.f spec_nuChanged.f impl_zeros.f
    rw [w64 (x := a0 + 1) (by omega) (by omega)]
    rw [ha, hb]
    simp [h.1, h.2]
  · unfold laws_FnExactChangedDigit.f spec_ChangedDigit.f impl_ChangedDigit.f spec_nuIs.f impl_isReflected.f spec_l1In.f impl_in.f
    by_cases h0 : 0 ≤ a0
    · have h1 : ¬ a0 ≤ 1000000000000 := fun z => h ⟨h0, z⟩
      simp [h0, h1]
    · simp [h0]

end Go.Proofs.Ytbbadgfmdpcloaa.Pure
