/- What the printed choices are. -/
import Derived.Test.YtcgilnmljflebaaAx1
import Derived.Test.YtcgilnmljflebaaAx2
import Derived.Test.YtcgilnmljflebaaAx3
import Derived.Test.YtcgilnmljflebaaAx4
import Derived.Test.YtcgilnmljflebaaAx5
import Derived.Test.YtcgilnmljflebaaAx6
import Derived.Test.YtcgilnmljflebaaSets
set_option linter.unusedVariables false
set_option linter.unusedSimpArgs false
namespace Go.Proofs.Ytcgilnmljflebaa.Pure
open Go.RowKit Go.Proofs.Ytcgilnmljflebaa.A Go.Proofs.YtcgilnmljflebaaW.PrintWords Go.Proofs.YtcgilnmljflebaaW.PrintLast Go.Proofs.YtcgilnmljflebaaW.PrintMore
theorem C_le : ∀ n c : Nat, M.C n c ≤ 2 ^ n
  | n, 0 => by rw [M.C]; exact Nat.two_pow_pos n
  | 0, c + 1 => by simp [M.C]
  | n + 1, c + 1 => by have h1 := C_le n c; have h2 := C_le n (c + 1); rw [M.C, Nat.pow_succ]; omega
theorem C_small {n : Nat} (c : Nat) (h : n ≤ 20) : M.C n c ≤ 1048576 :=
  Nat.le_trans (C_le n c) (Nat.pow_le_pow_right (n := 2) (by decide) h)
theorem choices_all : ((List.range 21).all fun s => (List.range 21).all fun c => (if c ≤ s then decide (spec_nuChoices.f 30 (s : Int) (c : Int) = some (M.C s c : Int)) else true) && decide (impl_chosen.f 30 (s : Int) (c : Int) = some (M.C s c : Int))) = true := by decide +kernel
theorem choices_both {n c : Nat} (hn : n ≤ 20) (hc : c ≤ 20) : (c ≤ n → spec_nuChoices.f 30 (n : Int) (c : Int) = some (M.C n c : Int)) ∧ impl_chosen.f 30 (n : Int) (c : Int) = some (M.C n c : Int) := by
  have := choices_all
  rw [List.all_eq_true] at this
  have := this n (by simp; omega)
  rw [List.all_eq_true] at this
  have := this c (by simp; omega)
  rw [Bool.and_eq_true] at this
  refine ⟨fun h => ?_, by simpa using this.2⟩
  rw [if_pos h] at this
  simpa using this.1
theorem nuChoices {n c k : Nat} (hn : n ≤ 20) (hc : c ≤ n) (hk : 30 ≤ k) : spec_nuChoices.f k (n : Int) (c : Int) = some (M.C n c : Int) :=
  at_rounds (spec_nuChoices.mono (n : Int) (c : Int)) hk ((choices_both hn (by omega)).1 hc)
theorem chosen {n c k : Nat} (hn : n ≤ 20) (hc : c ≤ 20) (hk : 30 ≤ k) : impl_chosen.f k (n : Int) (c : Int) = some (M.C n c : Int) :=
  at_rounds (impl_chosen.mono (n : Int) (c : Int)) hk (choices_both hn hc).2
theorem set_mid {α : Type} (A : List α) (x y : α) (B : List α) : (A ++ x :: B).set A.length y = A ++ y :: B := by
  rw [List.set_append_right _ _ (Nat.le_refl _), Nat.sub_self, List.set_cons_zero]
theorem get_mid {α : Type} (A : List α) (x : α) (B : List α) : (A ++ x :: B)[A.length]? = some x := by
  rw [List.getElem?_append_right (Nat.le_refl _), Nat.sub_self]; rfl
theorem reverseI_l0 (d : Nat) : ∀ (k : Nat) (A m B : List Int), m.length ≤ d → A.length + m.length + B.length ≤ 4000000000000 → d < k →
    slices_Reverse_int_int.l0 k (A ++ m ++ B) (A.length : Int) ((A.length : Int) + (m.length : Int) - 1) = some (A ++ m.reverse ++ B) := by
  induction d with
  | zero =>
    intro k A m B hm hl hk
    obtain ⟨k, rfl⟩ : ∃ m, k = m + 1 := ⟨k - 1, by omega⟩
    have : m = [] := List.length_eq_zero_iff.1 (by omega)
    subst this
    simp only [slices_Reverse_int_int.l0]
    rw [if_neg (by simp; omega)]; simp
  | succ d ih =>
    intro k A m B hm hl hk
    obtain ⟨k, rfl⟩ : ∃ m, k = m + 1 := ⟨k - 1, by omega⟩
    match m with
    | [] =>
      simp only [slices_Reverse_int_int.l0]
      rw [if_neg (by simp; omega)]; simp
    | [a] =>
      simp only [slices_Reverse_int_int.l0]
      rw [if_neg (by simp)]; simp
    | a :: b :: r =>
      obtain ⟨c, e, hce⟩ : ∃ c e, b :: r = c ++ [e] := ⟨(b :: r).dropLast, (b :: r).getLast (by simp), (List.dropLast_concat_getLast (by simp)).symm⟩
      rw [hce] at hm hl ⊢
      simp only [List.length_cons, List.length_append, List.length_nil] at hm hl
      have hj : (A.length : Int) + ((a :: (c ++ [e])).length : Int) - 1 = ((A.length + c.length + 1 : Nat) : Int) := by simp; omega
      have f0 : A ++ a :: (c ++ [e]) ++ B = A ++ a :: (c ++ e :: B) := by simp
      have f1 : A ++ a :: (c ++ e :: B) = (A ++ a :: c) ++ e :: B := by simp
      have l1 : (A ++ a :: c).length = A.length + c.length + 1 := by simp; omega
      have l2 : (A ++ e :: c).length = A.length + c.length + 1 := by simp; omega
      have g1 : (A ++ a :: (c ++ e :: B))[A.length]? = some a := get_mid A a _
      have g2 : (A ++ a :: (c ++ e :: B))[A.length + c.length + 1]? = some e := by rw [f1, ← l1]; exact get_mid _ _ _
      have f2 : ((A ++ a :: (c ++ e :: B)).set A.length e).set (A.length + c.length + 1) a = (A ++ [e]) ++ c ++ (a :: B) := by
        rw [set_mid]
        have : A ++ e :: (c ++ e :: B) = (A ++ e :: c) ++ e :: B := by simp
        rw [this, ← l2, set_mid]; simp
      have h := ih k (A ++ [e]) c (a :: B) (by omega) (by simp; omega) (by omega)
      simp only [slices_Reverse_int_int.l0]
      rw [hj, f0]
      rw [if_pos (by omega), if_pos (by omega), if_pos (by simp; omega), if_pos (by omega), if_pos (by simp; omega), rd_nat g1, rd_nat g2, Int.toNat_natCast, Int.toNat_natCast, f2, w64 (by omega) (by omega), w64 (by omega) (by omega)]
      have e1 : (A.length : Int) + 1 = (((A ++ [e]).length : Nat) : Int) := by simp
      have e2 : ((A.length + c.length + 1 : Nat) : Int) - 1 = (((A ++ [e]).length : Nat) : Int) + (c.length : Int) - 1 := by simp; omega
      rw [e1, e2, h]
      simp
theorem reverseI {l : List Int} {k : Nat} (hl : l.length ≤ 4000000000000) (hk : l.length < k) : slices_Reverse_int_int.f k l = some l.reverse := by
  have h := reverseI_l0 l.length k [] l [] (by omega) (by simpa using hl) hk
  unfold slices_Reverse_int_int.f
  rw [w64 (by omega) (by omega)]
  simpa using h
theorem nuChoice : ∀ (s c r k : Nat), s ≤ 20 → r < M.C s c → s + 32 + s < k → spec_nuChoice.f k (s : Int) (c : Int) (r : Int) = some ((M.chr s c r).reverse.map Int.ofNat)
  | s, 0, r, k, _, _, hk => by
    obtain ⟨k, rfl⟩ : ∃ m, k = m + 1 := ⟨k - 1, by omega⟩
    rw [spec_nuChoice.f, if_pos (by omega)]
    simp [M.chr]
  | 0, c + 1, r, k, _, hr, hk => by simp [M.C] at hr
  | s + 1, c + 1, r, k, hs, hr, hk => by
    obtain ⟨k, rfl⟩ : ∃ m, k = m + 2 := ⟨k - 2, by omega⟩
    have hcs : c + 1 ≤ s + 1 := by
      by_cases z : s + 1 < c + 1
      · rw [M.C_gt z] at hr; omega
      · omega
    have es : wrap64 (((s + 1 : Nat) : Int) - 1) = (s : Int) := by rw [w64 (by omega) (by omega)]; omega
    have ec : wrap64 (((c + 1 : Nat) : Int) - 1) = (c : Int) := by rw [w64 (by omega) (by omega)]; omega
    have hC : M.C (s + 1) (c + 1) = M.C s c + M.C s (c + 1) := rfl
    have b1 := C_small c (show s ≤ 20 by omega)
    have b2 := C_small (c + 1) (show s ≤ 20 by omega)
    rw [spec_nuChoice.f, if_neg (by omega), es]
    have key : spec_nuChoice.j0 (k + 1) ((s + 1 : Nat) : Int) ((c + 1 : Nat) : Int) (r : Int) (M.C s (c + 1) : Int) = some ((M.chr (s + 1) (c + 1) r).reverse.map Int.ofNat) := by
      rw [spec_nuChoice.j0, es, ec, M.chr]
      by_cases q : r < M.C s (c + 1)
      · rw [if_pos (by omega), if_pos q, nuChoice s (c + 1) r k (by omega) q (by omega)]; rfl
      · rw [if_neg (by omega), if_neg q, nuChoices (by omega) (by omega) (by omega)]
        simp only [Option.bind_some]
        have e2 : wrap64 (wrap64 ((M.C s c : Int) - 1) - wrap64 ((r : Int) - (M.C s (c + 1) : Int))) = ((M.C s c - 1 - (r - M.C s (c + 1)) : Nat) : Int) := by
          rw [w64 (x := (M.C s c : Int) - 1) (by omega) (by omega), w64 (x := (r : Int) - (M.C s (c + 1) : Int)) (by omega) (by omega), w64 (by omega) (by omega)]; omega
        rw [e2, nuChoice s c _ k (by omega) (by omega) (by omega)]
        simp only [Option.bind_some]
        have hl : (M.chr s c (M.C s c - 1 - (r - M.C s (c + 1)))).length = c := M.chr_length (by omega)
        rw [if_pos (by simp [hl]; omega)]
        simp
    by_cases q : c + 1 < s + 1
    · rw [if_pos (by omega), nuChoices (by omega) (by omega) (by omega)]
      exact key
    · have : c = s := by omega
      subst this
      rw [M.C_gt (by omega)] at key
      rw [if_neg (by omega)]
      exact key
theorem implChoiceAt_l0 : ∀ (s c r k : Nat) (acc : List Nat), s ≤ 20 → r < M.C s c → acc.length + c ≤ 20 → s + 52 < k →
    impl_ChoiceAt.l0 k (s : Int) (c : Int) (r : Int) (acc.map Int.ofNat) = some (((acc ++ M.chr s c r).map Int.ofNat).reverse, true)
  | s, 0, r, k, acc, _, _, ha, hk => by
    obtain ⟨k, rfl⟩ : ∃ m, k = m + 1 := ⟨k - 1, by omega⟩
    rw [impl_ChoiceAt.l0, if_neg (by omega), reverseI (by simp; omega) (by simp; omega)]
    simp [M.chr]
  | 0, c + 1, r, k, acc, _, hr, _, _ => by simp [M.C] at hr
  | s + 1, c + 1, r, k, acc, hs, hr, ha, hk => by
    obtain ⟨k, rfl⟩ : ∃ m, k = m + 1 := ⟨k - 1, by omega⟩
    have es : wrap64 (((s + 1 : Nat) : Int) - 1) = (s : Int) := by rw [w64 (by omega) (by omega)]; omega
    have ec : wrap64 (((c + 1 : Nat) : Int) - 1) = (c : Int) := by rw [w64 (by omega) (by omega)]; omega
    have hC : M.C (s + 1) (c + 1) = M.C s c + M.C s (c + 1) := rfl
    have b1 := C_small c (show s ≤ 20 by omega)
    have b2 := C_small (c + 1) (show s ≤ 20 by omega)
    rw [impl_ChoiceAt.l0, if_pos (by omega), es, ec, chosen (by omega) (by omega) (by omega)]
    simp only [Option.bind_some]
    rw [M.chr]
    by_cases q : r < M.C s (c + 1)
    · rw [if_pos (by omega), if_pos q]
      exact implChoiceAt_l0 s (c + 1) r k acc (by omega) q ha (by omega)
    · rw [if_neg (by omega), if_neg q, if_pos (by simp; omega), chosen (by omega) (by omega) (by omega)]
      simp only [Option.bind_some]
      have e2 : wrap64 (wrap64 ((M.C s c : Int) - 1) - wrap64 ((r : Int) - (M.C s (c + 1) : Int))) = ((M.C s c - 1 - (r - M.C s (c + 1)) : Nat) : Int) := by
        rw [w64 (x := (M.C s c : Int) - 1) (by omega) (by omega), w64 (x := (r : Int) - (M.C s (c + 1) : Int)) (by omega) (by omega), w64 (by omega) (by omega)]; omega
      have e3 : acc.map Int.ofNat ++ [(s : Int)] = (acc ++ [s]).map Int.ofNat := by simp
      rw [e2, e3, implChoiceAt_l0 s c _ k (acc ++ [s]) (by omega) (by omega) (by simp; omega) (by omega)]
      simp
/-- a choice, as numbers of Go -/
def chL (s c r : Nat) : List Int := ((M.chr s c r).map Int.ofNat).reverse
/-- which choices there are -/
def ChO (a0 a1 a2 : Int) : Prop := ∃ s c r : Nat, a0 = s ∧ a1 = c ∧ a2 = r ∧ (1 ≤ s ∧ s ≤ 20) ∧ c ≤ s ∧ r < M.C s c
theorem choiceAt {s c r k : Nat} (hs : 1 ≤ s ∧ s ≤ 20) (hc : c ≤ s) (hr : r < M.C s c) (hk : 120 < k) :
    impl_ChoiceAt.f k (s : Int) (c : Int) (r : Int) = some (chL s c r, true) ∧ spec_ChoiceAt.f k (s : Int) (c : Int) (r : Int) = some (chL s c r, true) := by
  obtain ⟨k, rfl⟩ : ∃ m, k = m + 1 := ⟨k - 1, by omega⟩
  have b1 := C_small c (show s ≤ 20 by omega)
  have e : wrap64 ((M.C s c : Int) - 1) = (M.C s c : Int) - 1 := w64 (by omega) (by omega)
  have h1 : (s : Int) ≥ 1 := by omega
  have h2 : (s : Int) ≤ 20 := by omega
  have h3 : (c : Int) ≥ 0 := by omega
  have h4 : (c : Int) ≤ (s : Int) := by omega
  have h5 : (r : Int) ≥ 0 := by omega
  have h6 : (r : Int) ≤ (M.C s c : Int) - 1 := by omega
  constructor
  · unfold impl_ChoiceAt.f impl_isSize.f impl_in.f
    rw [chosen (by omega) (by omega) (by omega)]
    simp only [h1, h2, h3, h4, if_true, decide_true, Option.bind_some, e, h5, h6, Bool.not_true, impl_ChoiceAt.j0, Bool.false_eq_true, if_false]
    have := implChoiceAt_l0 s c r k [] (by omega) hr (by simp; omega) (by omega)
    simpa [chL] using this
  · unfold spec_ChoiceAt.f spec_nuSize.f spec_l1In.f
    rw [nuChoices (by omega) (by omega) (by omega)]
    simp only [h1, h2, h3, h4, if_true, decide_true, Option.bind_some, e, h5, h6]
    rw [nuChoice s c r _ (by omega) hr (by omega)]
    simp [chL]
theorem choiceAt_no {a0 a1 a2 : Int} {k : Nat} (h : ¬ ChO a0 a1 a2) (hk : 120 < k) :
    impl_ChoiceAt.f k a0 a1 a2 = some ([], false) ∧ spec_ChoiceAt.f k a0 a1 a2 = some ([], false) := by
  obtain ⟨k, rfl⟩ : ∃ m, k = m + 1 := ⟨k - 1, by omega⟩
  unfold impl_ChoiceAt.f impl_isSize.f impl_in.f spec_ChoiceAt.f spec_nuSize.f spec_l1In.f
  simp only [impl_ChoiceAt.j0]
  by_cases h1 : a0 ≥ 1
  · by_cases h2 : a0 ≤ 20
    · by_cases h3 : a1 ≥ 0
      · by_cases h4 : a1 ≤ a0
        · obtain ⟨s, rfl⟩ := Int.eq_ofNat_of_zero_le (show 0 ≤ a0 by omega)
          obtain ⟨c, rfl⟩ := Int.eq_ofNat_of_zero_le (show 0 ≤ a1 by omega)
          have b1 := C_small c (show s ≤ 20 by omega)
          rw [nuChoices (by omega) (by omega) (by omega), chosen (by omega) (by omega) (by omega)]
          have e : wrap64 ((M.C s c : Int) - 1) = (M.C s c : Int) - 1 := w64 (by omega) (by omega)
          by_cases h5 : a2 ≥ 0
          · by_cases h6 : a2 ≤ (M.C s c : Int) - 1
            · obtain ⟨r, rfl⟩ := Int.eq_ofNat_of_zero_le (show 0 ≤ a2 by omega)
              exact absurd ⟨s, c, r, rfl, rfl, rfl, ⟨by omega, by omega⟩, by omega, by omega⟩ h
            · simp [h1, h2, h3, h4, e, h5, h6]
          · simp [h1, h2, h3, h4, e, h5]
        · simp [h1, h2, h3, h4]
      · simp [h1, h2, h3]
    · simp [h1, h2]
  · simp [h1]
theorem reverse_cases {α : Type} (l : List α) : l = [] ∨ ∃ i m, l = i ++ [m] := by
  rcases List.eq_nil_or_concat l with h | ⟨i, m, h⟩
  · exact .inl h
  · exact .inr ⟨i, m, by simpa using h⟩
theorem asc_concat {s m : Nat} {i : List Nat} (h : Asc s (i ++ [m])) : Asc m i ∧ m < s := by
  obtain ⟨h1, h2⟩ := h
  obtain ⟨h3, _, h4⟩ := List.pairwise_append.1 h1
  exact ⟨⟨h3, fun x hx => h4 x hx m (by simp)⟩, h2 m (by simp)⟩
theorem asc_desc {s : Nat} {ns : List Nat} (h : Asc s ns) : ns.reverse.Pairwise (· > ·) ∧ ∀ x ∈ ns.reverse, x < s :=
  ⟨List.pairwise_reverse.2 h.1, fun x hx => h.2 x (by simpa using hx)⟩
theorem rk_bound {s : Nat} {ns : List Nat} (hs : s ≤ 20) (h : Asc s ns) : ns.length ≤ s ∧ M.rk ns.reverse < M.C s ns.length := by
  have := M.rk_lt (asc_desc h).1 (asc_desc h).2
  simpa using this
theorem nuRank : ∀ (s k : Nat) (ns : List Nat), s ≤ 20 → Asc s ns → s + 32 < k → spec_nuRank.f k (s : Int) (ns.map Int.ofNat) = some (M.rk ns.reverse : Int)
  | 0, k, ns, _, h, hk => by
    obtain ⟨k, rfl⟩ : ∃ m, k = m + 1 := ⟨k - 1, by omega⟩
    have := asc_length h
    have : ns = [] := List.length_eq_zero_iff.1 (by omega)
    subst this
    rw [spec_nuRank.f, if_pos (by simp)]; rfl
  | s + 1, k, ns, hs, h, hk => by
    obtain ⟨k, rfl⟩ : ∃ m, k = m + 1 := ⟨k - 1, by omega⟩
    rcases reverse_cases ns with rfl | ⟨i, m, rfl⟩
    · rw [spec_nuRank.f, if_pos (by simp)]; rfl
    · obtain ⟨h1, h2⟩ := asc_concat h
      have hil := asc_length h1
      have hlen : ((i ++ [m]).map Int.ofNat).length = i.length + 1 := by simp
      have e1 : wrap64 ((((i ++ [m]).map Int.ofNat).length : Int) - 1) = (i.length : Int) := by rw [hlen, w64 (by omega) (by omega)]; omega
      have es : wrap64 (((s + 1 : Nat) : Int) - 1) = (s : Int) := by rw [w64 (by omega) (by omega)]; omega
      have hg : ((i ++ [m]).map Int.ofNat)[i.length]? = some (m : Int) := by simp
      have ht : ((i ++ [m]).map Int.ofNat).take i.length = i.map Int.ofNat := by simp
      rw [spec_nuRank.f, if_neg (by rw [hlen]; omega), e1, if_pos (by omega), if_pos (by rw [hlen]; omega), rd_nat hg, es, Int.toNat_natCast, ht]
      by_cases q : m = s
      · subst q
        have b1 := C_small i.length (show m ≤ 20 by omega)
        have b2 := C_small (i.length + 1) (show m ≤ 20 by omega)
        have hb := rk_bound (by omega) h1
        have hi := nuRank m k i (by omega) h1 (by omega)
        have hrk : M.rk (i ++ [m]).reverse = M.C m (i.length + 1) + M.C m i.length - 1 - M.rk i.reverse := by
          rw [List.reverse_append]; simp [M.rk]
        rw [if_pos rfl]
        by_cases q2 : i.length + 1 < m + 1
        · rw [if_pos (by rw [hlen]; omega), hlen, nuChoices (by omega) (by omega) (by omega), nuChoices (by omega) (by omega) (by omega)]
          simp only [Option.bind_some]
          rw [if_pos (by omega), hi]
          simp only [Option.bind_some]
          rw [w64 (x := (M.C m (i.length + 1) : Int) + (M.C m i.length : Int)) (by omega) (by omega), w64 (x := (M.C m (i.length + 1) : Int) + (M.C m i.length : Int) - 1) (by omega) (by omega), w64 (by omega) (by omega), hrk]
          congr 1; omega
        · have h0 : M.C m (i.length + 1) = 0 := M.C_gt (by omega)
          rw [if_neg (by rw [hlen]; omega), hlen, nuChoices (by omega) (by omega) (by omega)]
          simp only [Option.bind_some]
          rw [if_pos (by omega), hi]
          simp only [Option.bind_some]
          rw [w64 (x := 0 + (M.C m i.length : Int)) (by omega) (by omega), w64 (x := 0 + (M.C m i.length : Int) - 1) (by omega) (by omega), w64 (by omega) (by omega), hrk]
          congr 1; omega
      · have h3 : Asc s (i ++ [m]) := ⟨h.1, fun x hx => by
          rcases List.mem_append.1 hx with hx | hx
          · have := h1.2 x hx; omega
          · have : x = m := by simpa using hx
            omega⟩
        rw [if_neg (by omega), nuRank s k _ (by omega) h3 (by omega)]; rfl
theorem implRankOfChoice_l0 {ns : List Nat} {s : Nat} (hs : s ≤ 20) (hn : Asc s ns) (d : Nat) : ∀ (k i : Nat), i + d = ns.length → d + 32 < k →
    impl_RankOfChoice.l0 k (M.rk (ns.take i).reverse : Int) (ns.map Int.ofNat) (ns.length : Int) (i : Int) = some ((M.rk ns.reverse : Int), true) := by
  have hl := asc_length hn
  induction d with
  | zero =>
    intro k i hi hk
    obtain ⟨k, rfl⟩ : ∃ m, k = m + 1 := ⟨k - 1, by omega⟩
    rw [impl_RankOfChoice.l0, if_neg (by omega), List.take_of_length_le (by omega)]
  | succ d ih =>
    intro k i hi hk
    obtain ⟨k, rfl⟩ : ∃ m, k = m + 1 := ⟨k - 1, by omega⟩
    obtain ⟨x, r, hx⟩ := drop_cons (l := ns) (i := i) (by omega)
    obtain ⟨h2, h3, h4⟩ := getElem?_drop_cons hx
    have h2' : (ns.map Int.ofNat)[i]? = some (x : Int) := by rw [getElem?_map_ofNat, h2]; rfl
    have ht : ns.take (i + 1) = ns.take i ++ [x] := by rw [List.take_add_one, h2]; rfl
    have hlt : (ns.take i).length = i := by rw [List.length_take]; omega
    have hp : Asc s (ns.take i ++ [x]) := by
      rw [← ht]
      exact ⟨hn.1.sublist (List.take_sublist _ _), fun y hy => hn.2 y (List.mem_of_mem_take hy)⟩
    obtain ⟨h5, h6⟩ := asc_concat hp
    have hb := rk_bound (by omega) h5
    rw [hlt] at hb
    have b1 := C_small i (show x ≤ 20 by omega)
    have b2 := C_small (i + 1) (show x ≤ 20 by omega)
    have h := ih k (i + 1) (by omega) (by omega)
    rw [ht, List.reverse_append, List.reverse_cons, List.reverse_nil, List.nil_append, List.singleton_append, M.rk, List.length_reverse, hlt] at h
    rw [impl_RankOfChoice.l0, List.length_map, if_pos (by omega), if_pos (by omega), if_pos (by omega), rd_nat h2', w64 (x := (i : Int) + 1) (by omega) (by omega), w64 (x := (i : Int) + 1 - 1) (by omega) (by omega)]
    rw [show ((i : Int) + 1 - 1) = (i : Int) by omega, show ((i : Int) + 1) = ((i + 1 : Nat) : Int) by omega, chosen (by omega) (by omega) (by omega), chosen (by omega) (by omega) (by omega)]
    simp only [Option.bind_some]
    have e : wrap64 (wrap64 (wrap64 ((M.C x (i + 1) : Int) + (M.C x i : Int)) - 1) - (M.rk (ns.take i).reverse : Int)) = ((M.C x (i + 1) + M.C x i - 1 - M.rk (ns.take i).reverse : Nat) : Int) := by
      rw [w64 (x := (M.C x (i + 1) : Int) + (M.C x i : Int)) (by omega) (by omega), w64 (x := (M.C x (i + 1) : Int) + (M.C x i : Int) - 1) (by omega) (by omega), w64 (by omega) (by omega)]; omega
    rw [e]; exact h
theorem rankOfChoice {s : Nat} {ns : List Nat} {k : Nat} (hs : 1 ≤ s ∧ s ≤ 20) (h : Asc s ns) (hk : 100 < k) :
    impl_RankOfChoice.f k (s : Int) (ns.map Int.ofNat) = some ((M.rk ns.reverse : Int), true) ∧ spec_RankOfChoice.f k (s : Int) (ns.map Int.ofNat) = some ((M.rk ns.reverse : Int), true) := by
  have hl := asc_length h
  have hr := asc_rise h
  have e : wrap64 ((s : Int) - 1) = (s : Int) - 1 := w64 (by omega) (by omega)
  have h1 : (s : Int) ≥ 1 := by omega
  have h2 : (s : Int) ≤ 20 := by omega
  obtain ⟨k, rfl⟩ : ∃ m, k = m + 1 := ⟨k - 1, by omega⟩
  constructor
  · unfold impl_RankOfChoice.f impl_isSize.f impl_in.f
    rw [isSet (by simp; omega) (by simp; omega), e, hr]
    simp only [h1, h2, if_true, decide_true, Option.bind_some, Bool.not_true, impl_RankOfChoice.j0, Bool.false_eq_true, if_false, List.length_map]
    have := implRankOfChoice_l0 (by omega) h ns.length k 0 (by omega) (by omega)
    simpa [M.rk] using this
  · unfold spec_RankOfChoice.f spec_nuSize.f spec_l1In.f
    rw [l1Rising (by simp; omega) (by simp; omega), e, hr, nuRank s _ ns (by omega) h (by omega)]
    simp only [h1, h2, if_true, decide_true, Option.bind_some]
theorem rankOfChoice_no {a0 : Int} {l : List Int} {k : Nat} (hl : l.length ≤ 2000000) (h : ¬ ∃ (s : Nat) (ns : List Nat), a0 = s ∧ l = ns.map Int.ofNat ∧ (1 ≤ s ∧ s ≤ 20) ∧ Asc s ns) (hk : l.length + 1 < k) :
    impl_RankOfChoice.f k a0 l = some (0, false) ∧ spec_RankOfChoice.f k a0 l = some (0, false) := by
  obtain ⟨k, rfl⟩ : ∃ m, k = m + 1 := ⟨k - 1, by omega⟩
  unfold impl_RankOfChoice.f impl_isSize.f impl_in.f spec_RankOfChoice.f spec_nuSize.f spec_l1In.f
  rw [isSet hl (by omega), l1Rising hl (by omega)]
  simp only [impl_RankOfChoice.j0]
  by_cases h1 : a0 ≥ 1
  · by_cases h2 : a0 ≤ 20
    · obtain ⟨s, rfl⟩ := Int.eq_ofNat_of_zero_le (show 0 ≤ a0 by omega)
      rw [w64 (by omega) (by omega)]
      cases hr : rise ((s : Int) - 1) (-1) l with
      | false => simp [h1, h2]
      | true =>
        obtain ⟨ns, h3, h4⟩ := rise_asc hr
        exact absurd ⟨s, ns, rfl, h3, ⟨by omega, by omega⟩, h4⟩ h
    · simp [h1, h2]
  · simp [h1]
theorem p2_idx (bs : List Bool) : M.inv (M.p2sum (M.idxs 0 bs)) = M.num bs := by
  rw [M.p2sum_idxs, Nat.pow_zero, Nat.one_mul, M.inv_val]
theorem set_asc (r n : Nat) : Asc r (M.idxs 0 (M.st r n)) := ⟨M.idxs_asc, fun x hx => by
  have := M.idxs_ge x hx
  rw [M.st_length] at this
  omega⟩
theorem set_rank {r n : Nat} (h : n < 2 ^ r) : M.inv (M.p2sum (M.idxs 0 (M.st r n))) = n := by rw [p2_idx, M.num_st h]
theorem set_of {s : Nat} {ns : List Nat} (h : Asc s ns) : setL s (M.inv (M.p2sum ns)) = ns.map Int.ofNat ∧ M.inv (M.p2sum ns) < 2 ^ s := by
  obtain ⟨bs, hl, rfl⟩ := M.idxs_of (s := s) (o := 0) h.1 (fun x hx => ⟨by omega, by have := h.2 x hx; omega⟩)
  rw [p2_idx]
  subst hl
  refine ⟨?_, M.num_lt bs⟩
  unfold setL
  rw [M.st_num]
theorem set_next {r n : Nat} (h : n + 1 < 2 ^ r) : (M.idxs 0 (M.st r n)).length + (M.idxs 0 (M.st r (n + 1))).length = 2 * M.com (M.idxs 0 (M.st r n)) (M.idxs 0 (M.st r (n + 1))) + 1 := by
  have h1 := M.ctz_lt (n := n + 1) (r := r) (by omega) h
  have := M.set_step (o := 0) (k := M.ctz (n + 1)) (bs := M.st r n) (by rw [M.st_length]; exact h1)
  rw [M.flip_up h] at this
  exact this
theorem idxs_len (r n : Nat) : (M.idxs 0 (M.st r n)).length ≤ r := by
  have := setL_length r n
  unfold setL at this
  rwa [List.length_map] at this
theorem chL_nat (s c r : Nat) : chL s c r = (M.chr s c r).reverse.map Int.ofNat := by unfold chL; rw [List.map_reverse]
theorem ch_asc {s c r : Nat} : Asc s (M.chr s c r).reverse := ⟨List.pairwise_reverse.2 M.chr_desc, fun x hx => M.chr_lt x (List.mem_reverse.1 hx)⟩
theorem com_rev (a b : List Nat) : M.com a.reverse b.reverse = M.com a b := by
  unfold M.com
  rw [List.filter_reverse, List.length_reverse]
  congr 1
  apply List.filter_congr
  intro x _
  rw [Bool.eq_iff_iff, List.contains_iff_mem, List.contains_iff_mem, List.mem_reverse]
theorem C_zero (s : Nat) : M.C s 0 = 1 := by cases s <;> rfl
/-- a choice and the one behind it, the last one's being the first one -/
theorem ch_next {s c r : Nat} (hr : r < M.C s c) (h1 : 1 < M.C s c) : 1 ≤ c ∧ M.com (M.chr s c r) (M.chr s c ((r + 1) % M.C s c)) = c - 1 := by
  cases c with
  | zero => rw [C_zero] at h1; omega
  | succ c =>
    refine ⟨by omega, ?_⟩
    rw [Nat.add_sub_cancel]
    by_cases q : r + 1 < M.C s (c + 1)
    · rw [Nat.mod_eq_of_lt q]
      exact M.chr_step q
    · have e : r = M.C s (c + 1) - 1 := by omega
      have e2 : r + 1 = M.C s (c + 1) := by omega
      rw [e2, Nat.mod_self, e]
      refine M.chr_round ?_ h1
      by_cases z : c + 1 ≤ s
      · exact z
      · rw [M.C_gt (by omega)] at h1; omega
/-- how many choices there are, and one of them -/
def CH (x15 x16 x17 : Int) (x18 : List Int) (x19 : Bool) (x22 : Int) : Prop := (x19 = true ∧ ∃ s c r : Nat, x15 = s ∧ x16 = c ∧ x17 = r ∧ (1 ≤ s ∧ s ≤ 20) ∧ c ≤ s ∧ r < M.C s c ∧ x18 = chL s c r ∧ x22 = (M.C s c : Int)) ∨ x19 = false
theorem countChoices_yes {s c k : Nat} (hs : 1 ≤ s ∧ s ≤ 20) (hc : c ≤ s) (hk : 30 ≤ k) : impl_CountChoices.f k (s : Int) (c : Int) = some ((M.C s c : Int), true) ∧ spec_CountChoices.f k (s : Int) (c : Int) = some ((M.C s c : Int), true) := by
  have h1 : (s : Int) ≥ 1 := by omega
  have h2 : (s : Int) ≤ 20 := by omega
  have h3 : (c : Int) ≥ 0 := by omega
  have h4 : (c : Int) ≤ (s : Int) := by omega
  unfold impl_CountChoices.f spec_CountChoices.f impl_isSize.f impl_in.f spec_nuSize.f spec_l1In.f
  rw [chosen (by omega) (by omega) hk, nuChoices (by omega) hc hk]
  simp only [h1, h2, h3, h4, if_true, decide_true, Option.bind_some]
  exact ⟨trivial, trivial⟩
theorem countChoices_no {a0 a1 : Int} {k : Nat} (h : ¬ ∃ s c : Nat, a0 = s ∧ a1 = c ∧ (1 ≤ s ∧ s ≤ 20) ∧ c ≤ s) : impl_CountChoices.f k a0 a1 = some (0, false) ∧ spec_CountChoices.f k a0 a1 = some (0, false) := by
  unfold impl_CountChoices.f impl_isSize.f impl_in.f spec_CountChoices.f spec_nuSize.f spec_l1In.f
  by_cases h1 : a0 ≥ 1
  · by_cases h2 : a0 ≤ 20
    · by_cases h3 : a1 ≥ 0
      · by_cases h4 : a1 ≤ a0
        · obtain ⟨s, rfl⟩ := Int.eq_ofNat_of_zero_le (show 0 ≤ a0 by omega)
          obtain ⟨c, rfl⟩ := Int.eq_ofNat_of_zero_le (show 0 ≤ a1 by omega)
          exact absurd ⟨s, c, rfl, rfl, ⟨by omega, by omega⟩, by omega⟩ h
        · simp [h1, h2, h3, h4]
      · simp [h1, h2, h3]
    · simp [h1, h2]
  · simp [h1]
theorem choiceBoth (a0 a1 a2 : Int) : ∃ (L : List Int) (one : Bool) (all : Int) (three : Bool), CH a0 a1 a2 L one all ∧ L.length ≤ 100 ∧ (∀ k, 200 < k → impl_ChoiceAt.f k a0 a1 a2 = some (L, one) ∧ spec_ChoiceAt.f k a0 a1 a2 = some (L, one) ∧ impl_CountChoices.f k a0 a1 = some (all, three) ∧ spec_CountChoices.f k a0 a1 = some (all, three)) ∧
    (three = false → one = false) ∧ (three = true → ¬ a2 ≥ 0 → one = false) ∧ (three = true → a2 ≥ 0 → one = decide (a2 < all)) := by
  by_cases h : ∃ s c : Nat, a0 = s ∧ a1 = c ∧ (1 ≤ s ∧ s ≤ 20) ∧ c ≤ s
  · obtain ⟨s, c, rfl, rfl, hs, hc⟩ := h
    by_cases q : 0 ≤ a2 ∧ a2 < (M.C s c : Int)
    · obtain ⟨r, rfl⟩ := Int.eq_ofNat_of_zero_le q.1
      have hr : r < M.C s c := by omega
      refine ⟨chL s c r, true, (M.C s c : Int), true, .inl ⟨rfl, s, c, r, rfl, rfl, rfl, hs, hc, hr, rfl, rfl⟩, ?_, fun k hk => ?_, by simp, fun _ z => absurd q.1 z, fun _ _ => (decide_eq_true q.2).symm⟩
      · rw [chL_nat, List.length_map, List.length_reverse, M.chr_length hr]; omega
      · have h1 := choiceAt (k := k) hs hc hr (by omega)
        have h2 := countChoices_yes (k := k) hs hc (by omega)
        exact ⟨h1.1, h1.2, h2.1, h2.2⟩
    · refine ⟨[], false, (M.C s c : Int), true, .inr rfl, by simp, fun k hk => ?_, by simp, fun _ _ => rfl, fun _ z => (decide_eq_false (fun z2 => q ⟨z, z2⟩)).symm⟩
      have h1 := choiceAt_no (a0 := (s : Int)) (a1 := (c : Int)) (a2 := a2) (k := k) (by
        rintro ⟨s', c', r, e1, e2, rfl, _, _, h3⟩
        have e1 : s' = s := by omega
        have e2 : c' = c := by omega
        subst e1 e2
        exact q (by omega)) (by omega)
      have h2 := countChoices_yes (k := k) hs hc (by omega)
      exact ⟨h1.1, h1.2, h2.1, h2.2⟩
  · refine ⟨[], false, 0, false, .inr rfl, by simp, fun k hk => ?_, fun _ => rfl, by simp, by simp⟩
    have h1 := choiceAt_no (a0 := a0) (a1 := a1) (a2 := a2) (k := k) (by
      rintro ⟨s, c, r, e1, e2, _, h3, h4, _⟩
      exact h ⟨s, c, e1, e2, h3, h4⟩) (by omega)
    have h2 := countChoices_no (a0 := a0) (a1 := a1) (k := k) h
    exact ⟨h1.1, h1.2, h2.1, h2.2⟩
/-- a list that is a choice, with its two ranks -/
def RC (x26 : Int) (x27 : List Int) (x28 : Int) (x29 : Bool) (x32 : Int) : Prop := (x29 = true ∧ ∃ (s : Nat) (ns : List Nat), x26 = s ∧ x27 = ns.map Int.ofNat ∧ (1 ≤ s ∧ s ≤ 20) ∧ Asc s ns ∧ x28 = (M.rk ns.reverse : Int) ∧ x32 = (M.inv (M.p2sum ns) : Int)) ∨ x29 = false
theorem rankBoth (a0 : Int) (l : List Int) (hl : l.length ≤ 1000) : ∃ (p w : Int) (b : Bool), RC a0 l p b w ∧ ∀ k, 2000 < k → impl_RankOfChoice.f k a0 l = some (p, b) ∧ spec_RankOfChoice.f k a0 l = some (p, b) ∧ impl_RankOfSet.f k a0 l = some (w, b) ∧ spec_RankOfSet.f k a0 l = some (w, b) := by
  by_cases h : ∃ (s : Nat) (ns : List Nat), a0 = s ∧ l = ns.map Int.ofNat ∧ (1 ≤ s ∧ s ≤ 20) ∧ Asc s ns
  · obtain ⟨s, ns, rfl, rfl, hs, ha⟩ := h
    refine ⟨_, _, true, .inl ⟨rfl, s, ns, rfl, rfl, hs, ha, rfl, rfl⟩, fun k hk => ?_⟩
    have h1 := rankOfChoice (k := k) hs ha (by omega)
    have h2 := rankOfSet (k := k) hs ha (by omega)
    exact ⟨h1.1, h1.2, h2.1, h2.2⟩
  · refine ⟨0, 0, false, .inr rfl, fun k hk => ?_⟩
    have h1 := rankOfChoice_no (k := k) (by omega) h (by omega)
    have h2 := rankOfSet_no (k := k) (by omega) h (by omega)
    exact ⟨h1.1, h1.2, h2.1, h2.2⟩
end Go.Proofs.Ytcgilnmljflebaa.Pure
