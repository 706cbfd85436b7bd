/- What the printed functions of reflected numbers give. -/
import Derived.Test.YtomaodhlcacobaaAx7
import Derived.Test.YtomaodhlcacobaaIntS
set_option linter.unusedVariables false
set_option linter.unusedSimpArgs false
namespace Go.Proofs.Ytomaodhlcacobaa.Pure
open Go.RowKit Go.Proofs.Ytomaodhlcacobaa.A Go.Proofs.YtomaodhlcacobaaW.PrintWords Go.Proofs.YtomaodhlcacobaaW.PrintLast Go.Proofs.YtomaodhlcacobaaW.PrintMore

theorem unreflected_l0 (d : Nat) : ∀ (k g n : Nat), g < 2 ^ d → d ≤ 62 → n < 2 ^ 62 → d < k → impl_unreflected.l0 k (g : Int) (n : Int) = some ((n ^^^ M.inv g : Nat) : Int) := by
  induction d with
  | zero =>
    intro k g n hg hd hn hk
    obtain ⟨k, rfl⟩ : ∃ m, k = m + 1 := ⟨k - 1, by omega⟩
    have : g = 0 := by simp at hg; omega
    subst this
    simp only [impl_unreflected.l0]
    rw [if_neg (by omega), M.inv_zero, Nat.xor_zero]
  | succ d ih =>
    intro k g n hg hd hn hk
    obtain ⟨k, rfl⟩ : ∃ m, k = m + 1 := ⟨k - 1, by omega⟩
    have hg2 : g < 2 ^ 62 := Nat.lt_of_lt_of_le hg (Nat.pow_le_pow_right (by decide) hd)
    rw [Nat.pow_succ] at hg
    simp only [impl_unreflected.l0]
    by_cases h0 : g = 0
    · subst h0; rw [if_neg (by omega), M.inv_zero, Nat.xor_zero]
    · rw [if_pos (by omega), tdiv2 (by omega) (by omega), xor_nat (by omega) (by omega), show ((g : Int) / 2) = ((g / 2 : Nat) : Int) by omega]
      rw [ih k (g / 2) (n ^^^ g) (by omega) (by omega) (Nat.xor_lt_two_pow hn hg2) (by omega), Nat.xor_assoc, ← M.inv_eq]
theorem unreflected {g k : Nat} (hg : g < 2 ^ 62) (hk : 62 < k) : impl_unreflected.f k (g : Int) = some (M.inv g : Int) := by
  have := unreflected_l0 62 k g 0 hg (by omega) (by decide) hk
  rw [Nat.zero_xor] at this
  exact this

theorem nuBack_l0 (d : Nat) : ∀ (k g n : Nat), g < 2 ^ d → d ≤ 62 → n < 2 ^ 62 → d < k → spec_nuBack.l0 k (g : Int) (n : Int) = some ((n ^^^ M.inv g : Nat) : Int) := by
  induction d with
  | zero =>
    intro k g n hg hd hn hk
    obtain ⟨k, rfl⟩ : ∃ m, k = m + 1 := ⟨k - 1, by omega⟩
    have : g = 0 := by simp at hg; omega
    subst this
    simp only [spec_nuBack.l0]
    rw [if_neg (by omega), M.inv_zero, Nat.xor_zero]
  | succ d ih =>
    intro k g n hg hd hn hk
    obtain ⟨k, rfl⟩ : ∃ m, k = m + 1 := ⟨k - 1, by omega⟩
    have hg2 : g < 2 ^ 62 := Nat.lt_of_lt_of_le hg (Nat.pow_le_pow_right (by decide) hd)
    rw [Nat.pow_succ] at hg
    simp only [spec_nuBack.l0]
    by_cases h0 : g = 0
    · subst h0; rw [if_neg (by omega), M.inv_zero, Nat.xor_zero]
    · rw [if_pos (by omega), xor_nat (by omega) (by omega), show ((g : Int) / 2) = ((g / 2 : Nat) : Int) by omega]
      rw [ih k (g / 2) (n ^^^ g) (by omega) (by omega) (Nat.xor_lt_two_pow hn hg2) (by omega), Nat.xor_assoc, ← M.inv_eq]
theorem nuBack {g k : Nat} (hg : g < 2 ^ 62) (hk : 62 < k) : spec_nuBack.f k (g : Int) = some (M.inv g : Int) := by
  have := nuBack_l0 62 k g 0 hg (by omega) (by decide) hk
  rw [Nat.zero_xor] at this
  exact this

end Go.Proofs.Ytomaodhlcacobaa.Pure
