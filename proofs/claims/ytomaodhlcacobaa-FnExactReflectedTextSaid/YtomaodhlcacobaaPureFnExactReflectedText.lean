/- The law FnExactReflectedText, told over plain functions, holds for all arguments; no condition beyond the kinds of the numbers. -/
import Derived.Test.YtomaodhlcacobaaAx1
import Derived.Test.YtomaodhlcacobaaAx11
import Derived.Test.YtomaodhlcacobaaAx12
import Derived.Test.YtomaodhlcacobaaAx13
import Derived.Test.YtomaodhlcacobaaState
import Derived.Test.YtomaodhlcacobaaIntS
set_option linter.unusedVariables false
set_option linter.unusedSimpArgs false
namespace Go.Proofs.Ytomaodhlcacobaa.Pure
open Go.RowKit Go.Proofs.Ytomaodhlcacobaa.A Go.Proofs.YtomaodhlcacobaaW.PrintWords Go.Proofs.YtomaodhlcacobaaW.PrintLast Go.Proofs.YtomaodhlcacobaaW.PrintMore

theorem sb_append (a b : List Bool) : sb a ++ sb b = sb (a ++ b) := by rw [sb, sb, sb, tx_app, List.map_append]
theorem bytesOf_sb (bs : List Bool) : bytesOf (sb bs) = bs.map nsg := by
  unfold bytesOf
  rw [show (sb bs).data.toList = bs.map sg from tx_data _, List.map_map]
  apply List.map_congr_left
  intro b _
  cases b <;> rfl
theorem l1Num_bit {k b : Nat} (hb : b < 2) (hk : 0 < k) : spec_l1Num.f k (b : Int) = some (sb [decide (b = 1)]) := by
  obtain ⟨k, rfl⟩ : ∃ m, k = m + 1 := ⟨k - 1, by omega⟩
  rw [spec_l1Num.f, if_pos (by omega), ← strOfNums_nsg, w64 (by omega) (by omega)]
  rcases (by omega : b = 0 ∨ b = 1) with rfl | rfl <;> simp [nsg]
theorem refText_l0 {r n : Nat} (hr : r ≤ 40) (hn : n < 2 ^ 62) : ∀ (i k : Nat), i ≤ r → i + 1 < k →
    spec_ReflectedText.l0 k (n : Int) (sb ((M.st r n).drop i).reverse) ((i : Int) - 1) = some (sb (M.st r n).reverse, true)
  | 0, k, _, hk => by
    obtain ⟨k, rfl⟩ : ∃ m, k = m + 1 := ⟨k - 1, by omega⟩
    rw [spec_ReflectedText.l0, if_neg (by omega)]; rfl
  | i + 1, k, hi, hk => by
    obtain ⟨k, rfl⟩ : ∃ m, k = m + 1 := ⟨k - 1, by omega⟩
    have hl := M.st_length r n
    have hg := M.st_get (r := r) (n := n) (k := i) (by omega)
    have hgl := M.gray_lt (r := 62) hn
    have hgr : M.gray n / 2 ^ i % 2 = (n / 2 ^ i + n / 2 ^ (i + 1)) % 2 := by
      rw [M.gray_divs, M.gray_mod, M.div_pow_succ']
    obtain ⟨x, t, ht⟩ := drop_cons (l := M.st r n) (i := i) (by omega)
    obtain ⟨h2, h3, h4⟩ := getElem?_drop_cons ht
    rw [hg] at h2
    have hx := Option.some.inj h2
    have h := refText_l0 hr hn i k (by omega) (by omega)
    rw [ht, List.reverse_cons, ← sb_append, ← h3, ← hx] at h
    have hs : (sb ((M.st r n).drop (i + 1)).reverse).size ≤ 40 := by rw [sb_size, List.length_reverse, List.length_drop]; omega
    rw [spec_ReflectedText.l0, show (((i + 1 : Nat) : Int) - 1) = (i : Int) by omega, if_pos (by omega)]
    simp only [spec_nuOf.f, Option.bind_some]
    rw [if_pos (by omega), gray_int' (by omega), and_shr (by omega) (by omega), hgr, l1Num_bit (Nat.mod_lt _ (by decide)) (by omega)]
    simp only [Option.bind_some]
    rw [if_pos (by rw [sb_size [decide _]]; simp only [List.length_cons, List.length_nil]; omega), w64 (by omega) (by omega)]
    exact h
theorem FnExactReflectedText : laws_FnExactReflectedText.Pure := by
  intro a0 a1 hw hw1
  refine ⟨60, ?_⟩
  have key : ∀ (s : ByteArray) (b : Bool), spec_ReflectedText.f 60 a0 a1 = some (s, b) → impl_ReflectedText.f 60 a0 a1 = some (s, b) → laws_FnExactReflectedText.f 60 a0 a1 = some true := by
    intro s b h1 h2
    unfold laws_FnExactReflectedText.f
    rw [h1, h2]
    simp
  by_cases h0 : 0 ≤ a0 ∧ a0 ≤ 1000000000000
  · obtain ⟨n, rfl⟩ := Int.eq_ofNat_of_zero_le h0.1
    have q0 : (n : Int) ≥ 0 := h0.1
    by_cases h1 : 1 ≤ a1 ∧ a1 ≤ 40
    · obtain ⟨r, rfl⟩ := Int.eq_ofNat_of_zero_le (show 0 ≤ a1 by omega)
      have q1 : (r : Int) ≥ 1 := h1.1
      have q2 : (0 : Int) ≤ r := by omega
      have hgl := M.gray_lt (r := 62) (n := n) (by omega)
      by_cases h2 : M.gray n / 2 ^ r > 0
      · have q3 : ((M.gray n / 2 ^ r : Nat) : Int) > 0 := by omega
        refine key ⟨#[]⟩ false ?_ ?_
        · unfold spec_ReflectedText.f spec_nuIs.f spec_l1In.f spec_nuOf.f
          rw [gray_int' (by omega)]
          simp only [Option.bind_some]
          rw [shr_nat (by omega)]
          simp only [q0, q1, q2, q3, h0.2, h1.2, if_true, decide_true, Option.bind_some, spec_ReflectedText.j0]
        · unfold impl_ReflectedText.f impl_isReflected.f impl_in.f
          rw [gray_int (by omega), shr_nat (by omega)]
          simp only [q0, q1, q2, q3, h0.2, h1.2, if_true, decide_true, Option.bind_some]
      · have q3 : ¬ ((M.gray n / 2 ^ r : Nat) : Int) > 0 := by omega
        refine key (sb (M.st r n).reverse) true ?_ ?_
        · unfold spec_ReflectedText.f spec_nuIs.f spec_l1In.f spec_nuOf.f
          rw [gray_int' (by omega)]
          simp only [Option.bind_some]
          rw [shr_nat (by omega)]
          simp only [q0, q1, q2, q3, h0.2, h1.2, if_true, decide_true, decide_false, Option.bind_some, spec_ReflectedText.j0, Bool.false_eq_true, if_false]
          have h := refText_l0 (r := r) (n := n) (by omega) (by omega) r 59 (by omega) (by omega)
          rw [List.drop_of_length_le (by rw [M.st_length]; omega)] at h
          rw [w64 (by omega) (by omega)]
          exact h
        · unfold impl_ReflectedText.f impl_isReflected.f impl_in.f
          rw [gray_int (by omega), shr_nat (by omega), state (by omega) (by omega) (by omega)]
          have q4 : (sb (M.st r n)).size ≤ 9223372036854775807 := by rw [sb_size, M.st_length]; omega
          simp only [q0, q1, q2, q3, q4, h0.2, h1.2, if_true, decide_true, Option.bind_some, if_false]
          rw [bytesOf_sb, ← List.map_reverse, strOfNums_nsg]
    · refine key ⟨#[]⟩ false ?_ ?_
      · unfold spec_ReflectedText.f spec_nuIs.f spec_l1In.f
        by_cases q1 : a1 ≥ 1
        · have q2 : ¬ a1 ≤ 40 := fun z => h1 ⟨q1, z⟩
          simp [q0, q1, q2, h0.2, spec_ReflectedText.j0]
        · simp [q0, q1, h0.2, spec_ReflectedText.j0]
      · unfold impl_ReflectedText.f impl_isReflected.f impl_in.f
        by_cases q1 : a1 ≥ 1
        · have q2 : ¬ a1 ≤ 40 := fun z => h1 ⟨q1, z⟩
          simp [q0, q1, q2, h0.2]
        · simp [q0, q1, h0.2]
  · refine key ⟨#[]⟩ false ?_ ?_
    · unfold spec_ReflectedText.f spec_nuIs.f spec_l1In.f
      by_cases q1 : a0 ≥ 0
      · have q2 : ¬ a0 ≤ 1000000000000 := fun z => h0 ⟨q1, z⟩
        simp [q1, q2, spec_ReflectedText.j0]
      · simp [q1, spec_ReflectedText.j0]
    · unfold impl_ReflectedText.f impl_isReflected.f impl_in.f
      by_cases q1 : a0 ≥ 0
      · have q2 : ¬ a0 ≤ 1000000000000 := fun z => h0 ⟨q1, z⟩
        simp [q1, q2]
      · simp [q1]

end Go.Proofs.Ytomaodhlcacobaa.Pure
