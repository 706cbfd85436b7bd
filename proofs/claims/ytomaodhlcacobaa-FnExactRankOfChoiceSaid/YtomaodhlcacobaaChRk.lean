/- What the printed ranks of choices are. -/
import Derived.Test.YtomaodhlcacobaaAx1
import Derived.Test.YtomaodhlcacobaaAx5
import Derived.Test.YtomaodhlcacobaaAx6
import Derived.Test.YtomaodhlcacobaaChoose
set_option linter.unusedVariables false
set_option linter.unusedSimpArgs false
namespace Go.Proofs.Ytomaodhlcacobaa.Pure
open Go.RowKit Go.Proofs.Ytomaodhlcacobaa.A Go.Proofs.YtomaodhlcacobaaW.PrintWords Go.Proofs.YtomaodhlcacobaaW.PrintLast Go.Proofs.YtomaodhlcacobaaW.PrintMore

theorem reverse_cases {α : Type} (l : List α) : l = [] ∨ ∃ i m, l = i ++ [m] := by
  rcases List.eq_nil_or_concat l with h | ⟨i, m, h⟩
  · exact .inl h
  · exact .inr ⟨i, m, by simpa using h⟩
theorem asc_concat {s m : Nat} {i : List Nat} (h : Asc s (i ++ [m])) : Asc m i ∧ m < s := by
  obtain ⟨h1, h2⟩ := h
  obtain ⟨h3, _, h4⟩ := List.pairwise_append.1 h1
  exact ⟨⟨h3, fun x hx => h4 x hx m (by simp)⟩, h2 m (by simp)⟩
theorem asc_desc {s : Nat} {ns : List Nat} (h : Asc s ns) : ns.reverse.Pairwise (· > ·) ∧ ∀ x ∈ ns.reverse, x < s :=
  ⟨List.pairwise_reverse.2 h.1, fun x hx => h.2 x (by simpa using hx)⟩
theorem rk_bound {s : Nat} {ns : List Nat} (hs : s ≤ 20) (h : Asc s ns) : ns.length ≤ s ∧ M.rk ns.reverse < M.C s ns.length := by
  have := M.rk_lt (asc_desc h).1 (asc_desc h).2
  simpa using this
theorem nuRank : ∀ (s k : Nat) (ns : List Nat), s ≤ 20 → Asc s ns → s + 32 < k → spec_nuRank.f k (s : Int) (ns.map Int.ofNat) = some (M.rk ns.reverse : Int)
  | 0, k, ns, _, h, hk => by
    obtain ⟨k, rfl⟩ : ∃ m, k = m + 1 := ⟨k - 1, by omega⟩
    have := asc_length h
    have : ns = [] := List.length_eq_zero_iff.1 (by omega)
    subst this
    rw [spec_nuRank.f, if_pos (by simp)]; rfl
  | s + 1, k, ns, hs, h, hk => by
    obtain ⟨k, rfl⟩ : ∃ m, k = m + 1 := ⟨k - 1, by omega⟩
    rcases reverse_cases ns with rfl | ⟨i, m, rfl⟩
    · rw [spec_nuRank.f, if_pos (by simp)]; rfl
    · obtain ⟨h1, h2⟩ := asc_concat h
      have hil := asc_length h1
      have hlen : ((i ++ [m]).map Int.ofNat).length = i.length + 1 := by simp
      have e1 : wrap64 ((((i ++ [m]).map Int.ofNat).length : Int) - 1) = (i.length : Int) := by rw [hlen, w64 (by omega) (by omega)]; omega
      have es : wrap64 (((s + 1 : Nat) : Int) - 1) = (s : Int) := by rw [w64 (by omega) (by omega)]; omega
      have hg : ((i ++ [m]).map Int.ofNat)[i.length]? = some (m : Int) := by simp
      have ht : ((i ++ [m]).map Int.ofNat).take i.length = i.map Int.ofNat := by simp
      rw [spec_nuRank.f, if_neg (by rw [hlen]; omega), e1, if_pos (by omega), if_pos (by rw [hlen]; omega), rd_nat hg, es, Int.toNat_natCast, ht]
      by_cases q : m = s
      · subst q
        have b1 := C_small i.length (show m ≤ 20 by omega)
        have b2 := C_small (i.length + 1) (show m ≤ 20 by omega)
        have hb := rk_bound (by omega) h1
        have hi := nuRank m k i (by omega) h1 (by omega)
        have hrk : M.rk (i ++ [m]).reverse = M.C m (i.length + 1) + M.C m i.length - 1 - M.rk i.reverse := by
          rw [List.reverse_append]; simp [M.rk]
        rw [if_pos rfl]
        by_cases q2 : i.length + 1 < m + 1
        · rw [if_pos (by rw [hlen]; omega), hlen, nuChoices (by omega) (by omega) (by omega), nuChoices (by omega) (by omega) (by omega)]
          simp only [Option.bind_some]
          rw [if_pos (by omega), hi]
          simp only [Option.bind_some]
          rw [w64 (x := (M.C m (i.length + 1) : Int) + (M.C m i.length : Int)) (by omega) (by omega), w64 (x := (M.C m (i.length + 1) : Int) + (M.C m i.length : Int) - 1) (by omega) (by omega), w64 (by omega) (by omega), hrk]
          congr 1; omega
        · have h0 : M.C m (i.length + 1) = 0 := M.C_gt (by omega)
          rw [if_neg (by rw [hlen]; omega), hlen, nuChoices (by omega) (by omega) (by omega)]
          simp only [Option.bind_some]
          rw [if_pos (by omega), hi]
          simp only [Option.bind_some]
          rw [w64 (x := 0 + (M.C m i.length : Int)) (by omega) (by omega), w64 (x := 0 + (M.C m i.length : Int) - 1) (by omega) (by omega), w64 (by omega) (by omega), hrk]
          congr 1; omega
      · have h3 : Asc s (i ++ [m]) := ⟨h.1, fun x hx => by
          rcases List.mem_append.1 hx with hx | hx
          · have := h1.2 x hx; omega
          · have : x = m := by simpa using hx
            omega⟩
        rw [if_neg (by omega), nuRank s k _ (by omega) h3 (by omega)]; rfl
theorem implRankOfChoice_l0 {ns : List Nat} {s : Nat} (hs : s ≤ 20) (hn : Asc s ns) (d : Nat) : ∀ (k i : Nat), i + d = ns.length → d + 32 < k →
    impl_RankOfChoice.l0 k (M.rk (ns.take i).reverse : Int) (ns.map Int.ofNat) (ns.length : Int) (i : Int) = some ((M.rk ns.reverse : Int), true) := by
  have hl := asc_length hn
  induction d with
  | zero =>
    intro k i hi hk
    obtain ⟨k, rfl⟩ : ∃ m, k = m + 1 := ⟨k - 1, by omega⟩
    rw [impl_RankOfChoice.l0, if_neg (by omega), List.take_of_length_le (by omega)]
  | succ d ih =>
    intro k i hi hk
    obtain ⟨k, rfl⟩ : ∃ m, k = m + 1 := ⟨k - 1, by omega⟩
    obtain ⟨x, r, hx⟩ := drop_cons (l := ns) (i := i) (by omega)
    obtain ⟨h2, h3, h4⟩ := getElem?_drop_cons hx
    have h2' : (ns.map Int.ofNat)[i]? = some (x : Int) := by rw [getElem?_map_ofNat, h2]; rfl
    have ht : ns.take (i + 1) = ns.take i ++ [x] := by rw [List.take_add_one, h2]; rfl
    have hlt : (ns.take i).length = i := by rw [List.length_take]; omega
    have hp : Asc s (ns.take i ++ [x]) := by
      rw [← ht]
      exact ⟨hn.1.sublist (List.take_sublist _ _), fun y hy => hn.2 y (List.mem_of_mem_take hy)⟩
    obtain ⟨h5, h6⟩ := asc_concat hp
    have hb := rk_bound (by omega) h5
    rw [hlt] at hb
    have b1 := C_small i (show x ≤ 20 by omega)
    have b2 := C_small (i + 1) (show x ≤ 20 by omega)
    have h := ih k (i + 1) (by omega) (by omega)
    rw [ht, List.reverse_append, List.reverse_cons, List.reverse_nil, List.nil_append, List.singleton_append, M.rk, List.length_reverse, hlt] at h
    rw [impl_RankOfChoice.l0, List.length_map, if_pos (by omega), if_pos (by omega), if_pos (by omega), rd_nat h2', w64 (x := (i : Int) + 1) (by omega) (by omega), w64 (x := (i : Int) + 1 - 1) (by omega) (by omega)]
    rw [show ((i : Int) + 1 - 1) = (i : Int) by omega, show ((i : Int) + 1) = ((i + 1 : Nat) : Int) by omega, chosen (by omega) (by omega) (by omega), chosen (by omega) (by omega) (by omega)]
    simp only [Option.bind_some]
    have e : wrap64 (wrap64 (wrap64 ((M.C x (i + 1) : Int) + (M.C x i : Int)) - 1) - (M.rk (ns.take i).reverse : Int)) = ((M.C x (i + 1) + M.C x i - 1 - M.rk (ns.take i).reverse : Nat) : Int) := by
      rw [w64 (x := (M.C x (i + 1) : Int) + (M.C x i : Int)) (by omega) (by omega), w64 (x := (M.C x (i + 1) : Int) + (M.C x i : Int) - 1) (by omega) (by omega), w64 (by omega) (by omega)]; omega
    rw [e]; exact h
theorem rankOfChoice {s : Nat} {ns : List Nat} {k : Nat} (hs : 1 ≤ s ∧ s ≤ 20) (h : Asc s ns) (hk : 100 < k) :
    impl_RankOfChoice.f k (s : Int) (ns.map Int.ofNat) = some ((M.rk ns.reverse : Int), true) ∧ spec_RankOfChoice.f k (s : Int) (ns.map Int.ofNat) = some ((M.rk ns.reverse : Int), true) := by
  have hl := asc_length h
  have hr := asc_rise h
  have e : wrap64 ((s : Int) - 1) = (s : Int) - 1 := w64 (by omega) (by omega)
  have h1 : (s : Int) ≥ 1 := by omega
  have h2 : (s : Int) ≤ 20 := by omega
  obtain ⟨k, rfl⟩ : ∃ m, k = m + 1 := ⟨k - 1, by omega⟩
  constructor
  · unfold impl_RankOfChoice.f impl_isSize.f impl_in.f
    rw [isSet (by simp; omega) (by simp; omega), e, hr]
    simp only [h1, h2, if_true, decide_true, Option.bind_some, Bool.not_true, impl_RankOfChoice.j0, Bool.false_eq_true, if_false, List.length_map]
    have := implRankOfChoice_l0 (by omega) h ns.length k 0 (by omega) (by omega)
    simpa [M.rk] using this
  · unfold spec_RankOfChoice.f spec_nuSize.f spec_l1In.f
    rw [l1Rising (by simp; omega) (by simp; omega), e, hr, nuRank s _ ns (by omega) h (by omega)]
    simp only [h1, h2, if_true, decide_true, Option.bind_some]
theorem rankOfChoice_no {a0 : Int} {l : List Int} {k : Nat} (hl : l.length ≤ 2000000) (h : ¬ ∃ (s : Nat) (ns : List Nat), a0 = s ∧ l = ns.map Int.ofNat ∧ (1 ≤ s ∧ s ≤ 20) ∧ Asc s ns) (hk : l.length + 1 < k) :
    impl_RankOfChoice.f k a0 l = some (0, false) ∧ spec_RankOfChoice.f k a0 l = some (0, false) := by
  obtain ⟨k, rfl⟩ : ∃ m, k = m + 1 := ⟨k - 1, by omega⟩
  unfold impl_RankOfChoice.f impl_isSize.f impl_in.f spec_RankOfChoice.f spec_nuSize.f spec_l1In.f
  rw [isSet hl (by omega), l1Rising hl (by omega)]
  simp only [impl_RankOfChoice.j0]
  by_cases h1 : a0 ≥ 1
  · by_cases h2 : a0 ≤ 20
    · obtain ⟨s, rfl⟩ := Int.eq_ofNat_of_zero_le (show 0 ≤ a0 by omega)
      rw [w64 (by omega) (by omega)]
      cases hr : rise ((s : Int) - 1) (-1) l with
      | false => simp [h1, h2]
      | true =>
        obtain ⟨ns, h3, h4⟩ := rise_asc hr
        exact absurd ⟨s, ns, rfl, h3, ⟨by omega, by omega⟩, h4⟩ h
    · simp [h1, h2]
  · simp [h1]

end Go.Proofs.Ytomaodhlcacobaa.Pure
