/- What the printed counts of choices are. -/
import Derived.Test.YtomaodhlcacobaaAx1
import Derived.Test.YtomaodhlcacobaaAx2
import Derived.Test.YtomaodhlcacobaaRSet
set_option linter.unusedVariables false
set_option linter.unusedSimpArgs false
namespace Go.Proofs.Ytomaodhlcacobaa.Pure
open Go.RowKit Go.Proofs.Ytomaodhlcacobaa.A Go.Proofs.YtomaodhlcacobaaW.PrintWords Go.Proofs.YtomaodhlcacobaaW.PrintLast Go.Proofs.YtomaodhlcacobaaW.PrintMore

/-! choices -/
theorem C_le : ∀ n c : Nat, M.C n c ≤ 2 ^ n
  | n, 0 => by rw [M.C]; exact Nat.two_pow_pos n
  | 0, c + 1 => by simp [M.C]
  | n + 1, c + 1 => by have h1 := C_le n c; have h2 := C_le n (c + 1); rw [M.C, Nat.pow_succ]; omega
theorem C_small {n : Nat} (c : Nat) (h : n ≤ 20) : M.C n c ≤ 1048576 :=
  Nat.le_trans (C_le n c) (Nat.pow_le_pow_right (n := 2) (by decide) h)
theorem choices_all : ((List.range 21).all fun s => (List.range 21).all fun c => (if c ≤ s then decide (spec_nuChoices.f 30 (s : Int) (c : Int) = some (M.C s c : Int)) else true) && decide (impl_chosen.f 30 (s : Int) (c : Int) = some (M.C s c : Int))) = true := by decide +kernel
theorem choices_both {n c : Nat} (hn : n ≤ 20) (hc : c ≤ 20) : (c ≤ n → spec_nuChoices.f 30 (n : Int) (c : Int) = some (M.C n c : Int)) ∧ impl_chosen.f 30 (n : Int) (c : Int) = some (M.C n c : Int) := by
  have := choices_all
  rw [List.all_eq_true] at this
  have := this n (by simp; omega)
  rw [List.all_eq_true] at this
  have := this c (by simp; omega)
  rw [Bool.and_eq_true] at this
  refine ⟨fun h => ?_, by simpa using this.2⟩
  rw [if_pos h] at this
  simpa using this.1
theorem nuChoices {n c k : Nat} (hn : n ≤ 20) (hc : c ≤ n) (hk : 30 ≤ k) : spec_nuChoices.f k (n : Int) (c : Int) = some (M.C n c : Int) :=
  at_rounds (spec_nuChoices.mono (n : Int) (c : Int)) hk ((choices_both hn (by omega)).1 hc)
theorem chosen {n c k : Nat} (hn : n ≤ 20) (hc : c ≤ 20) (hk : 30 ≤ k) : impl_chosen.f k (n : Int) (c : Int) = some (M.C n c : Int) :=
  at_rounds (impl_chosen.mono (n : Int) (c : Int)) hk (choices_both hn hc).2

theorem set_mid {α : Type} (A : List α) (x y : α) (B : List α) : (A ++ x :: B).set A.length y = A ++ y :: B := by
  rw [List.set_append_right _ _ (Nat.le_refl _), Nat.sub_self, List.set_cons_zero]
theorem get_mid {α : Type} (A : List α) (x : α) (B : List α) : (A ++ x :: B)[A.length]? = some x := by
  rw [List.getElem?_append_right (Nat.le_refl _), Nat.sub_self]; rfl
theorem reverseI_l0 (d : Nat) : ∀ (k : Nat) (A m B : List Int), m.length ≤ d → A.length + m.length + B.length ≤ 4000000000000 → d < k →
    slices_Reverse_int_int.l0 k (A ++ m ++ B) (A.length : Int) ((A.length : Int) + (m.length : Int) - 1) = some (A ++ m.reverse ++ B) := by
  induction d with
  | zero =>
    intro k A m B hm hl hk
    obtain ⟨k, rfl⟩ : ∃ m, k = m + 1 := ⟨k - 1, by omega⟩
    have : m = [] := List.length_eq_zero_iff.1 (by omega)
    subst this
    simp only [slices_Reverse_int_int.l0]
    rw [if_neg (by simp; omega)]; simp
  | succ d ih =>
    intro k A m B hm hl hk
    obtain ⟨k, rfl⟩ : ∃ m, k = m + 1 := ⟨k - 1, by omega⟩
    match m with
    | [] =>
      simp only [slices_Reverse_int_int.l0]
      rw [if_neg (by simp; omega)]; simp
    | [a] =>
      simp only [slices_Reverse_int_int.l0]
      rw [if_neg (by simp)]; simp
    | a :: b :: r =>
      obtain ⟨c, e, hce⟩ : ∃ c e, b :: r = c ++ [e] := ⟨(b :: r).dropLast, (b :: r).getLast (by simp), (List.dropLast_concat_getLast (by simp)).symm⟩
      rw [hce] at hm hl ⊢
      simp only [List.length_cons, List.length_append, List.length_nil] at hm hl
      have hj : (A.length : Int) + ((a :: (c ++ [e])).length : Int) - 1 = ((A.length + c.length + 1 : Nat) : Int) := by simp; omega
      have f0 : A ++ a :: (c ++ [e]) ++ B = A ++ a :: (c ++ e :: B) := by simp
      have f1 : A ++ a :: (c ++ e :: B) = (A ++ a :: c) ++ e :: B := by simp
      have l1 : (A ++ a :: c).length = A.length + c.length + 1 := by simp; omega
      have l2 : (A ++ e :: c).length = A.length + c.length + 1 := by simp; omega
      have g1 : (A ++ a :: (c ++ e :: B))[A.length]? = some a := get_mid A a _
      have g2 : (A ++ a :: (c ++ e :: B))[A.length + c.length + 1]? = some e := by rw [f1, ← l1]; exact get_mid _ _ _
      have f2 : ((A ++ a :: (c ++ e :: B)).set A.length e).set (A.length + c.length + 1) a = (A ++ [e]) ++ c ++ (a :: B) := by
        rw [set_mid]
        have : A ++ e :: (c ++ e :: B) = (A ++ e :: c) ++ e :: B := by simp
        rw [this, ← l2, set_mid]; simp
      have h := ih k (A ++ [e]) c (a :: B) (by omega) (by simp; omega) (by omega)
      simp only [slices_Reverse_int_int.l0]
      rw [hj, f0]
      rw [if_pos (by omega), if_pos (by omega), if_pos (by simp; omega), if_pos (by omega), if_pos (by simp; omega), rd_nat g1, rd_nat g2, Int.toNat_natCast, Int.toNat_natCast, f2, w64 (by omega) (by omega), w64 (by omega) (by omega)]
      have e1 : (A.length : Int) + 1 = (((A ++ [e]).length : Nat) : Int) := by simp
      have e2 : ((A.length + c.length + 1 : Nat) : Int) - 1 = (((A ++ [e]).length : Nat) : Int) + (c.length : Int) - 1 := by simp; omega
      rw [e1, e2, h]
      simp
theorem reverseI {l : List Int} {k : Nat} (hl : l.length ≤ 4000000000000) (hk : l.length < k) : slices_Reverse_int_int.f k l = some l.reverse := by
  have h := reverseI_l0 l.length k [] l [] (by omega) (by simpa using hl) hk
  unfold slices_Reverse_int_int.f
  rw [w64 (by omega) (by omega)]
  simpa using h

end Go.Proofs.Ytomaodhlcacobaa.Pure
