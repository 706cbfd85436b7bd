/- What the printed choices are. -/
import Derived.Test.YtomaodhlcacobaaAx1
import Derived.Test.YtomaodhlcacobaaAx2
import Derived.Test.YtomaodhlcacobaaChoose
set_option linter.unusedVariables false
set_option linter.unusedSimpArgs false
namespace Go.Proofs.Ytomaodhlcacobaa.Pure
open Go.RowKit Go.Proofs.Ytomaodhlcacobaa.A Go.Proofs.YtomaodhlcacobaaW.PrintWords Go.Proofs.YtomaodhlcacobaaW.PrintLast Go.Proofs.YtomaodhlcacobaaW.PrintMore

theorem nuChoice : ∀ (s c r k : Nat), s ≤ 20 → r < M.C s c → s + 32 + s < k → spec_nuChoice.f k (s : Int) (c : Int) (r : Int) = some ((M.chr s c r).reverse.map Int.ofNat)
  | s, 0, r, k, _, _, hk => by
    obtain ⟨k, rfl⟩ : ∃ m, k = m + 1 := ⟨k - 1, by omega⟩
    rw [spec_nuChoice.f, if_pos (by omega)]
    simp [M.chr]
  | 0, c + 1, r, k, _, hr, hk => by simp [M.C] at hr
  | s + 1, c + 1, r, k, hs, hr, hk => by
    obtain ⟨k, rfl⟩ : ∃ m, k = m + 2 := ⟨k - 2, by omega⟩
    have hcs : c + 1 ≤ s + 1 := by
      by_cases z : s + 1 < c + 1
      · rw [M.C_gt z] at hr; omega
      · omega
    have es : wrap64 (((s + 1 : Nat) : Int) - 1) = (s : Int) := by rw [w64 (by omega) (by omega)]; omega
    have ec : wrap64 (((c + 1 : Nat) : Int) - 1) = (c : Int) := by rw [w64 (by omega) (by omega)]; omega
    have hC : M.C (s + 1) (c + 1) = M.C s c + M.C s (c + 1) := rfl
    have b1 := C_small c (show s ≤ 20 by omega)
    have b2 := C_small (c + 1) (show s ≤ 20 by omega)
    rw [spec_nuChoice.f, if_neg (by omega), es]
    have key : spec_nuChoice.j0 (k + 1) ((s + 1 : Nat) : Int) ((c + 1 : Nat) : Int) (r : Int) (M.C s (c + 1) : Int) = some ((M.chr (s + 1) (c + 1) r).reverse.map Int.ofNat) := by
      rw [spec_nuChoice.j0, es, ec, M.chr]
      by_cases q : r < M.C s (c + 1)
      · rw [if_pos (by omega), if_pos q, nuChoice s (c + 1) r k (by omega) q (by omega)]; rfl
      · rw [if_neg (by omega), if_neg q, nuChoices (by omega) (by omega) (by omega)]
        simp only [Option.bind_some]
        have e2 : wrap64 (wrap64 ((M.C s c : Int) - 1) - wrap64 ((r : Int) - (M.C s (c + 1) : Int))) = ((M.C s c - 1 - (r - M.C s (c + 1)) : Nat) : Int) := by
          rw [w64 (x := (M.C s c : Int) - 1) (by omega) (by omega), w64 (x := (r : Int) - (M.C s (c + 1) : Int)) (by omega) (by omega), w64 (by omega) (by omega)]; omega
        rw [e2, nuChoice s c _ k (by omega) (by omega) (by omega)]
        simp only [Option.bind_some]
        have hl : (M.chr s c (M.C s c - 1 - (r - M.C s (c + 1)))).length = c := M.chr_length (by omega)
        rw [if_pos (by simp [hl]; omega)]
        simp
    by_cases q : c + 1 < s + 1
    · rw [if_pos (by omega), nuChoices (by omega) (by omega) (by omega)]
      exact key
    · have : c = s := by omega
      subst this
      rw [M.C_gt (by omega)] at key
      rw [if_neg (by omega)]
      exact key
theorem implChoiceAt_l0 : ∀ (s c r k : Nat) (acc : List Nat), s ≤ 20 → r < M.C s c → acc.length + c ≤ 20 → s + 52 < k →
    impl_ChoiceAt.l0 k (s : Int) (c : Int) (r : Int) (acc.map Int.ofNat) = some (((acc ++ M.chr s c r).map Int.ofNat).reverse, true)
  | s, 0, r, k, acc, _, _, ha, hk => by
    obtain ⟨k, rfl⟩ : ∃ m, k = m + 1 := ⟨k - 1, by omega⟩
    rw [impl_ChoiceAt.l0, if_neg (by omega), reverseI (by simp; omega) (by simp; omega)]
    simp [M.chr]
  | 0, c + 1, r, k, acc, _, hr, _, _ => by simp [M.C] at hr
  | s + 1, c + 1, r, k, acc, hs, hr, ha, hk => by
    obtain ⟨k, rfl⟩ : ∃ m, k = m + 1 := ⟨k - 1, by omega⟩
    have es : wrap64 (((s + 1 : Nat) : Int) - 1) = (s : Int) := by rw [w64 (by omega) (by omega)]; omega
    have ec : wrap64 (((c + 1 : Nat) : Int) - 1) = (c : Int) := by rw [w64 (by omega) (by omega)]; omega
    have hC : M.C (s + 1) (c + 1) = M.C s c + M.C s (c + 1) := rfl
    have b1 := C_small c (show s ≤ 20 by omega)
    have b2 := C_small (c + 1) (show s ≤ 20 by omega)
    rw [impl_ChoiceAt.l0, if_pos (by omega), es, ec, chosen (by omega) (by omega) (by omega)]
    simp only [Option.bind_some]
    rw [M.chr]
    by_cases q : r < M.C s (c + 1)
    · rw [if_pos (by omega), if_pos q]
      exact implChoiceAt_l0 s (c + 1) r k acc (by omega) q ha (by omega)
    · rw [if_neg (by omega), if_neg q, if_pos (by simp; omega), chosen (by omega) (by omega) (by omega)]
      simp only [Option.bind_some]
      have e2 : wrap64 (wrap64 ((M.C s c : Int) - 1) - wrap64 ((r : Int) - (M.C s (c + 1) : Int))) = ((M.C s c - 1 - (r - M.C s (c + 1)) : Nat) : Int) := by
        rw [w64 (x := (M.C s c : Int) - 1) (by omega) (by omega), w64 (x := (r : Int) - (M.C s (c + 1) : Int)) (by omega) (by omega), w64 (by omega) (by omega)]; omega
      have e3 : acc.map Int.ofNat ++ [(s : Int)] = (acc ++ [s]).map Int.ofNat := by simp
      rw [e2, e3, implChoiceAt_l0 s c _ k (acc ++ [s]) (by omega) (by omega) (by simp; omega) (by omega)]
      simp
/-- a choice, as numbers of Go -/
def chL (s c r : Nat) : List Int := ((M.chr s c r).map Int.ofNat).reverse
/-- which choices there are -/
def ChO (a0 a1 a2 : Int) : Prop := ∃ s c r : Nat, a0 = s ∧ a1 = c ∧ a2 = r ∧ (1 ≤ s ∧ s ≤ 20) ∧ c ≤ s ∧ r < M.C s c
theorem choiceAt {s c r k : Nat} (hs : 1 ≤ s ∧ s ≤ 20) (hc : c ≤ s) (hr : r < M.C s c) (hk : 120 < k) :
    impl_ChoiceAt.f k (s : Int) (c : Int) (r : Int) = some (chL s c r, true) ∧ spec_ChoiceAt.f k (s : Int) (c : Int) (r : Int) = some (chL s c r, true) := by
  obtain ⟨k, rfl⟩ : ∃ m, k = m + 1 := ⟨k - 1, by omega⟩
  have b1 := C_small c (show s ≤ 20 by omega)
  have e : wrap64 ((M.C s c : Int) - 1) = (M.C s c : Int) - 1 := w64 (by omega) (by omega)
  have h1 : (s : Int) ≥ 1 := by omega
  have h2 : (s : Int) ≤ 20 := by omega
  have h3 : (c : Int) ≥ 0 := by omega
  have h4 : (c : Int) ≤ (s : Int) := by omega
  have h5 : (r : Int) ≥ 0 := by omega
  have h6 : (r : Int) ≤ (M.C s c : Int) - 1 := by omega
  constructor
  · unfold impl_ChoiceAt.f impl_isSize.f impl_in.f
    rw [chosen (by omega) (by omega) (by omega)]
    simp only [h1, h2, h3, h4, if_true, decide_true, Option.bind_some, e, h5, h6, Bool.not_true, impl_ChoiceAt.j0, Bool.false_eq_true, if_false]
    have := implChoiceAt_l0 s c r k [] (by omega) hr (by simp; omega) (by omega)
    simpa [chL] using this
  · unfold spec_ChoiceAt.f spec_nuSize.f spec_l1In.f
    rw [nuChoices (by omega) (by omega) (by omega)]
    simp only [h1, h2, h3, h4, if_true, decide_true, Option.bind_some, e, h5, h6]
    rw [nuChoice s c r _ (by omega) hr (by omega)]
    simp [chL]
theorem choiceAt_no {a0 a1 a2 : Int} {k : Nat} (h : ¬ ChO a0 a1 a2) (hk : 120 < k) :
    impl_ChoiceAt.f k a0 a1 a2 = some ([], false) ∧ spec_ChoiceAt.f k a0 a1 a2 = some ([], false) := by
  obtain ⟨k, rfl⟩ : ∃ m, k = m + 1 := ⟨k - 1, by omega⟩
  unfold impl_ChoiceAt.f impl_isSize.f impl_in.f spec_ChoiceAt.f spec_nuSize.f spec_l1In.f
  simp only [impl_ChoiceAt.j0]
  by_cases h1 : a0 ≥ 1
  · by_cases h2 : a0 ≤ 20
    · by_cases h3 : a1 ≥ 0
      · by_cases h4 : a1 ≤ a0
        · obtain ⟨s, rfl⟩ := Int.eq_ofNat_of_zero_le (show 0 ≤ a0 by omega)
          obtain ⟨c, rfl⟩ := Int.eq_ofNat_of_zero_le (show 0 ≤ a1 by omega)
          have b1 := C_small c (show s ≤ 20 by omega)
          rw [nuChoices (by omega) (by omega) (by omega), chosen (by omega) (by omega) (by omega)]
          have e : wrap64 ((M.C s c : Int) - 1) = (M.C s c : Int) - 1 := w64 (by omega) (by omega)
          by_cases h5 : a2 ≥ 0
          · by_cases h6 : a2 ≤ (M.C s c : Int) - 1
            · obtain ⟨r, rfl⟩ := Int.eq_ofNat_of_zero_le (show 0 ≤ a2 by omega)
              exact absurd ⟨s, c, r, rfl, rfl, rfl, ⟨by omega, by omega⟩, by omega, by omega⟩ h
            · simp [h1, h2, h3, h4, e, h5, h6]
          · simp [h1, h2, h3, h4, e, h5]
        · simp [h1, h2, h3, h4]
      · simp [h1, h2, h3]
    · simp [h1, h2]
  · simp [h1]

end Go.Proofs.Ytomaodhlcacobaa.Pure
