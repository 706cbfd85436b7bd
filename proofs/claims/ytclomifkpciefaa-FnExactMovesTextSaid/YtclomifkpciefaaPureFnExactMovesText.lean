/- The law FnExactMovesText, told over plain functions, holds for all arguments; no condition beyond the kinds of the numbers. -/
import Derived.Test.YtclomifkpciefaaAx12
import Derived.Test.YtclomifkpciefaaL1All
set_option linter.unusedVariables false
set_option linter.unusedSimpArgs false
namespace Go.Proofs.Ytclomifkpciefaa.Pure
open Go.RowKit Go.Proofs.Ytclomifkpciefaa.A Go.Proofs.YtclomifkpciefaaW.PrintWords Go.Proofs.YtclomifkpciefaaW.PrintLast Go.Proofs.YtclomifkpciefaaW.PrintMore

def ltr (x : Int) : UInt8 := UInt8.ofNat (97 + x.toNat)
theorem enc_small : ∀ n : Nat, n < 20 → Utf8.encode (IntKind.i32.wrap (wrap64 (97 + (n : Int)))) = tx [ltr (n : Int)] := by decide +kernel
theorem num_small : ∀ n : Nat, n < 20 → UInt8.ofNat (((97 + (n : Int)) % 256).toNat) = ltr (n : Int) := by decide +kernel
theorem enc_of {x : Int} (h : 0 ≤ x ∧ x ≤ 19) : Utf8.encode (IntKind.i32.wrap (wrap64 (97 + x))) = tx [ltr x] := by
  obtain ⟨n, rfl⟩ := Int.eq_ofNat_of_zero_le h.1
  exact enc_small n (by omega)
theorem shown_l0 {l : List Int} (hl : l.length ≤ 2000) (r : List Int) : ∀ (k i : Nat) (acc : List UInt8), l.drop i = r → (∀ x ∈ r, 0 ≤ x ∧ x ≤ 19) → acc.length ≤ i → r.length < k →
    spec_riShown.l0 k l (tx acc) (i : Int) = some (tx (acc ++ r.map ltr)) := by
  induction r with
  | nil =>
    intro k i acc hd _ ha hk
    obtain ⟨k, rfl⟩ : ∃ m, k = m + 1 := ⟨k - 1, by omega⟩
    have : l.length ≤ i := List.drop_eq_nil_iff.1 hd
    rw [spec_riShown.l0, if_neg (by omega)]; simp
  | cons x r ih =>
    intro k i acc hd hr ha hk
    obtain ⟨k, rfl⟩ : ∃ m, k = m + 1 := ⟨k - 1, by omega⟩
    obtain ⟨h2, h3, h4⟩ := getElem?_drop_cons hd
    rw [spec_riShown.l0, if_pos (by omega), if_pos (by omega), rd_nat h2, enc_of (hr x (by simp)), if_pos (by rw [tx_size, tx_size]; simp; omega), w64 (by omega) (by omega), show ((i : Int) + 1) = ((i + 1 : Nat) : Int) by omega, tx_app]
    rw [ih k (i + 1) _ h3 (fun y hy => hr y (by simp [hy])) (by simp; omega) (by simp at hk; omega)]
    simp
theorem moves_l0 {l : List Int} (hl : l.length ≤ 2000) (r : List Int) : ∀ (k i : Nat) (acc : List Int), l.drop i = r → acc.length ≤ i → r.length < k →
    impl_MovesText.l0 k acc l (l.length : Int) (i : Int) = some (strOfNums (acc ++ r.map fun x => (97 + x) % 256), true) := by
  induction r with
  | nil =>
    intro k i acc hd ha hk
    obtain ⟨k, rfl⟩ : ∃ m, k = m + 1 := ⟨k - 1, by omega⟩
    have : l.length ≤ i := List.drop_eq_nil_iff.1 hd
    rw [impl_MovesText.l0, if_neg (by omega)]; simp
  | cons x r ih =>
    intro k i acc hd ha hk
    obtain ⟨k, rfl⟩ : ∃ m, k = m + 1 := ⟨k - 1, by omega⟩
    obtain ⟨h2, h3, h4⟩ := getElem?_drop_cons hd
    rw [impl_MovesText.l0, if_pos (by omega), if_pos (by omega), if_pos (by omega), if_pos (by omega), rd_nat h2, w64 (by omega) (by omega), show ((i : Int) + 1) = ((i + 1 : Nat) : Int) by omega]
    rw [ih k (i + 1) _ h3 (by simp; omega) (by simp at hk; omega)]
    simp
theorem strOfNums_ltr {l : List Int} (h : ∀ x ∈ l, 0 ≤ x ∧ x ≤ 19) : strOfNums (l.map fun x => (97 + x) % 256) = tx (l.map ltr) := by
  unfold strOfNums tx
  congr 2
  rw [List.map_map]
  apply List.map_congr_left
  intro x hx
  obtain ⟨n, rfl⟩ := Int.eq_ofNat_of_zero_le (h x hx).1
  have := (h _ hx).2
  exact num_small n (by omega)
theorem movesText (l : List Int) : ∃ (r : ByteArray) (b : Bool), ∀ k, l.length + 10 < k → l.length ≤ 2000000 → spec_MovesText.f k l = some (r, b) ∧ impl_MovesText.f k l = some (r, b) := by
  by_cases hl : (l.length : Int) > 2000
  · refine ⟨⟨#[]⟩, false, fun k hk _ => ?_⟩
    unfold spec_MovesText.f impl_MovesText.f
    rw [if_pos hl, if_pos hl]
    exact ⟨rfl, rfl⟩
  · have e : (l.any fun n => !(decide (0 ≤ n ∧ n ≤ 19))) = !(l.all fun x => decide (0 ≤ x ∧ x ≤ 19)) := by
      rw [List.any_eq_not_all_not]; simp
    cases hq : (l.all fun x => decide (0 ≤ x ∧ x ≤ 19)) with
    | false =>
      refine ⟨⟨#[]⟩, false, fun k hk _ => ?_⟩
      unfold spec_MovesText.f impl_MovesText.f
      rw [if_neg hl, if_neg hl, l1All (by omega) (by omega), e, hq]
      exact ⟨rfl, rfl⟩
    | true =>
      have hr : ∀ x ∈ l, 0 ≤ x ∧ x ≤ 19 := fun x hx => of_decide_eq_true (List.all_eq_true.1 hq x hx)
      refine ⟨tx (l.map ltr), true, fun k hk _ => ?_⟩
      unfold spec_MovesText.f impl_MovesText.f spec_riShown.f
      rw [if_neg hl, if_neg hl, l1All (by omega) (by omega), e, hq]
      have h1 := shown_l0 (l := l) (by omega) l k 0 [] (by simp) hr (by simp) (by omega)
      have h2 := moves_l0 (l := l) (by omega) l k 0 [] (by simp) (by simp) (by omega)
      rw [List.nil_append] at h1 h2
      rw [strOfNums_ltr hr] at h2
      simp only [Option.bind_some, if_true, Bool.not_true, Bool.false_eq_true, if_false]
      have h1' : spec_riShown.l0 k l (⟨#[]⟩ : ByteArray) 0 = some (tx (l.map ltr)) := h1
      rw [h1']
      exact ⟨rfl, h2⟩
theorem FnExactMovesText : laws_FnExactMovesText.Pure := by
  intro l _ _ _
  refine ⟨l.length + 100, ?_⟩
  unfold laws_FnExactMovesText.f
  by_cases hl : (l.length : Int) > 1048576
  · rw [if_pos hl]
  obtain ⟨r, b, H⟩ := movesText l
  obtain ⟨k, hk⟩ : ∃ k, l.length + 100 = k + 1 := ⟨l.length + 99, by omega⟩
  rw [if_neg hl, toIntS (by omega) (by omega)]
  simp only [Option.bind_some]
  rw [(H _ (by omega) (by omega)).1, (H _ (by omega) (by omega)).2, hk]
  simp only [Option.bind_some, if_true, bne_self_eq_false]
  simp only [laws_FnExactMovesText.j0, Bool.false_eq_true, if_false]
  rw [toIntS (by omega) (by omega)]
  simp only [Option.bind_some]
  rw [eqIntS (by omega) (by omega)]
  simp

end Go.Proofs.Ytclomifkpciefaa.Pure
