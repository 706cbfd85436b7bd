/- The law FnExactSwapPlace, told over plain functions, holds for all arguments; no condition beyond the kinds of the numbers. -/
import Derived.Test.YtomaodhlcacobaaBx1
import Derived.Test.YtomaodhlcacobaaBx2
import Derived.Test.YtomaodhlcacobaaBSwap
set_option linter.unusedVariables false
set_option linter.unusedSimpArgs false
namespace Go.Proofs.Ytomaodhlcacobaa.Pure
open Go.RowKit Go.Proofs.Ytomaodhlcacobaa.B Go.Proofs.YtomaodhlcacobaaW.PrintWords Go.Proofs.YtomaodhlcacobaaW.PrintLast Go.Proofs.YtomaodhlcacobaaW.PrintMore

/-- where two lists first differ -/
theorem diff_l0 {a b : List Int} (hl : a.length = b.length) (hb : a.length ≤ 1000) (d : Nat) : ∀ (k i : Nat), i + d = a.length → d < k →
    ∃ r : Int × Bool, spec_SwapPlace.l0 k a b (a.length : Int) (i : Int) = some r ∧ impl_SwapPlace.l0 k a b (a.length : Int) (i : Int) = some r := by
  induction d with
  | zero =>
    intro k i hi hk
    obtain ⟨k, rfl⟩ : ∃ m, k = m + 1 := ⟨k - 1, by omega⟩
    simp only [spec_SwapPlace.l0, impl_SwapPlace.l0]
    rw [if_neg (by omega), if_neg (by omega)]
    exact ⟨_, rfl, rfl⟩
  | succ d ih =>
    intro k i hi hk
    obtain ⟨k, rfl⟩ : ∃ m, k = m + 1 := ⟨k - 1, by omega⟩
    simp only [spec_SwapPlace.l0, impl_SwapPlace.l0]
    simp only [if_pos (show (i : Int) < (a.length : Int) by omega), if_pos (show (0 : Int) ≤ (i : Int) by omega), if_pos (show (i : Int) < (b.length : Int) by omega)]
    by_cases e : rd a (i : Int) = rd b (i : Int)
    · rw [if_pos e, if_pos e, w64 (by omega) (by omega), show ((i : Int) + 1) = ((i + 1 : Nat) : Int) by omega]
      exact ih k (i + 1) (by omega) (by omega)
    · rw [if_neg e, if_neg e]
      exact ⟨_, rfl, rfl⟩
theorem FnExactSwapPlace : laws_FnExactSwapPlace.Pure := by
  intro a0 a1 _ _
  refine ⟨60, ?_⟩
  suffices h : ∃ r : Int × Bool, spec_SwapPlace.f 60 a0 a1 = some r ∧ impl_SwapPlace.f 60 a0 a1 = some r by
    obtain ⟨r, h1, h2⟩ := h
    unfold laws_FnExactSwapPlace.f
    rw [h1, h2]; simp
  unfold spec_SwapPlace.f impl_SwapPlace.f
  rw [in_dec]
  by_cases c : 1 ≤ a0 ∧ a0 ≤ 10
  · obtain ⟨s, rfl⟩ := Int.eq_ofNat_of_zero_le (show 0 ≤ a0 by omega)
    have h4 := fact_bound (s := s) (by omega)
    rw [decide_eq_true c, lists (by omega) (by omega), orders (by omega) (by omega)]
    simp only [Option.bind_some, if_true]
    rw [w64 (by omega) (by omega), w64 (by omega) (by omega), in_dec]
    simp only [Option.bind_some]
    by_cases h : 0 ≤ a1 ∧ a1 ≤ (M.fact s : Int) - 2
    · obtain ⟨r, rfl⟩ := Int.eq_ofNat_of_zero_le h.1
      rw [decide_eq_true h, isSwapped_val (k := 60) (by omega) true (by simp only [true_iff]; exact ⟨s, r, rfl, rfl, by omega, by omega, by omega⟩)]
      simp only [Option.bind_some, if_true]
      rw [show ((r : Int) == (M.fact s : Int) - 1) = false from beq_eq_false_iff_ne.mpr (by omega)]
      rw [spec_SwapPlace.j0, impl_SwapPlace.j0]
      simp only [Bool.not_true, Bool.false_eq_true, if_false]
      rw [swapped_eq, swapped_eq, w64 (by omega) (by omega), show ((r : Int) + 1) = ((r + 1 : Nat) : Int) by omega, nuSwapped s r 59 (by omega) (by omega) (by omega), nuSwapped s (r + 1) 59 (by omega) (by omega) (by omega)]
      simp only [Option.bind_some]
      exact diff_l0 (a := (M.sw s r).map Int.ofNat) (b := (M.sw s (r + 1)).map Int.ofNat) (by simp [M.sw_length]) (by simp [M.sw_length]; omega) s 59 0 (by simp [M.sw_length]) (by omega)
    · rw [decide_eq_false h]
      refine ⟨(0, false), ?_, ?_⟩
      · rw [spec_SwapPlace.j0]; rfl
      · by_cases h5 : a1 = (M.fact s : Int) - 1
        · subst h5
          obtain ⟨r, hr⟩ := Int.eq_ofNat_of_zero_le (show 0 ≤ (M.fact s : Int) - 1 by have := M.fact_pos s; omega)
          rw [isSwapped_val (k := 60) (by omega) true (by simp only [true_iff]; exact ⟨s, r, rfl, hr, by omega, by omega, by omega⟩)]
          simp only [Option.bind_some, if_true, beq_self_eq_true]
          rw [impl_SwapPlace.j0]; rfl
        · rw [isSwapped_val (k := 60) (by omega) false (by
            simp only [Bool.false_eq_true, false_iff]
            rintro ⟨s', r, h6, rfl, h7, h8, h9⟩
            have : s' = s := by omega
            subst this
            omega)]
          simp only [Option.bind_some, Bool.false_eq_true, if_false]
          rw [impl_SwapPlace.j0]; rfl
  · rw [decide_eq_false c, isSwapped_val (k := 60) (by omega) false (by
      simp only [Bool.false_eq_true, false_iff]
      rintro ⟨s', r, h6, rfl, h7, h8, h9⟩
      exact c (by omega))]
    simp only [Option.bind_some, Bool.false_eq_true, if_false]
    refine ⟨(0, false), ?_, ?_⟩
    · rw [spec_SwapPlace.j0]; rfl
    · rw [impl_SwapPlace.j0]; rfl

end Go.Proofs.Ytomaodhlcacobaa.Pure
