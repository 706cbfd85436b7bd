/- The law FnExactRankOfMixed, told over plain functions, holds for all arguments; no condition beyond the kinds of the numbers. -/
import Derived.Test.YtomaodhlcacobaaAx1
import Derived.Test.YtomaodhlcacobaaAx4
import Derived.Test.YtomaodhlcacobaaAx8
import Derived.Test.YtomaodhlcacobaaAx9
import Derived.Test.YtomaodhlcacobaaDigits
set_option linter.unusedVariables false
set_option linter.unusedSimpArgs false
namespace Go.Proofs.Ytomaodhlcacobaa.Pure
open Go.RowKit Go.Proofs.Ytomaodhlcacobaa.A Go.Proofs.YtomaodhlcacobaaW.PrintWords Go.Proofs.YtomaodhlcacobaaW.PrintLast Go.Proofs.YtomaodhlcacobaaW.PrintMore

/-- a digit that fits its limit -/
def okd (l0 l1 : List Int) (j : Nat) : Prop := 0 ≤ rd l1 (j : Int) ∧ rd l1 (j : Int) ≤ rd l0 (j : Int) - 1
theorem in_dec (n a b : Int) : spec_l1In.f n a b = some (decide (a ≤ n ∧ n ≤ b)) := by
  unfold spec_l1In.f
  by_cases q0 : n ≥ a
  · have q0' : a ≤ n := q0
    simp [q0']
  · have q0' : ¬ a ≤ n := q0
    simp [q0']
theorem drop_at {ns : List Nat} {i : Nat} (h : i < ns.length) : ns.drop i = ns[i] :: ns.drop (i + 1) := List.drop_eq_getElem_cons h
theorem rank_l1 {ns : List Nat} {l : List Int} (h0 : ∀ y ∈ ns, 0 < y) (h1 : ∀ y ∈ ns, y ≤ 20) (hl : ns.length ≤ 8) (hll : l.length = ns.length) (i : Nat) : ∀ (rank x8 : Int), x8 = (i : Int) - 1 → i ≤ ns.length → (∀ j, j < i → okd (ns.map Int.ofNat) l j) →
    ∃ r : Int, ∀ k, i + 10 < k → spec_RankOfMixed.l1 k (ns.map Int.ofNat) l rank x8 = some (r, true) ∧ impl_RankOfMixed.l0 k (ns.map Int.ofNat) l rank (M.prod (ns.drop i) : Int) x8 = some (r, true) := by
  induction i with
  | zero =>
    intro rank x8 hx _ _
    refine ⟨rank, fun k hk => ?_⟩
    obtain ⟨k, rfl⟩ : ∃ m, k = m + 1 := ⟨k - 1, by omega⟩
    constructor
    · rw [spec_RankOfMixed.l1, if_neg (by omega)]
    · rw [impl_RankOfMixed.l0, if_neg (by omega)]
  | succ i ih =>
    intro rank x8 hx hi hg
    have hx8 : x8 = (i : Int) := by omega
    subst hx8
    obtain ⟨_, p2, p3⟩ := prod_drop h0 h1 hl (i + 1) 9 (by omega)
    obtain ⟨_, p4, p5⟩ := prod_drop h0 h1 hl i 9 (by omega)
    have hin : ns[i] ∈ ns := List.getElem_mem _
    have hgi := hg i (by omega)
    have hr : rd (ns.map Int.ofNat) (i : Int) = (ns[i] : Int) := rd_nat (by rw [List.getElem?_map, List.getElem?_eq_getElem (by omega)]; rfl)
    have hm0 : wrap64 ((M.prod (ns.drop (i + 1)) : Int) * (ns[i] : Int)) = (M.prod (ns.drop i) : Int) := by
      rw [drop_at (i := i) (by omega), M.prod, Nat.mul_comm] at p5 ⊢
      rw [← Int.natCast_mul, w64 (by omega) (by omega)]
    have hm := Aside0.mk hm0
    clear hm0
    unfold okd at hgi
    rw [hr] at hgi
    have hno := h1 _ hin
    have hin' : (impl_in.f (rd l (i : Int)) 0 (wrap64 ((ns[i] : Int) - 1))) = some true := by
      rw [in_val, w64 (by omega) (by omega), decide_eq_true hgi]
    obtain ⟨R, hR⟩ : ∃ R : Int, R = if (Int.tmod (rd l (i : Int)) 2) = 1 then (wrap64 ((wrap64 ((wrap64 ((M.prod (ns.drop (i + 1)) : Int) - 1)) - rank)) + (wrap64 ((rd l (i : Int)) * (M.prod (ns.drop (i + 1)) : Int))))) else (wrap64 (rank + (wrap64 ((rd l (i : Int)) * (M.prod (ns.drop (i + 1)) : Int))))) := ⟨_, rfl⟩
    have hR2 := Aside0.mk hR
    clear hR
    have em : Aside0 (wrap64 ((i : Int) - 1) = (i : Int) - 1) := ⟨w64 (by omega) (by omega)⟩
    have ep : Aside0 (wrap64 ((i : Int) + 1) = ((i + 1 : Nat) : Int)) := ⟨by rw [w64 (by omega) (by omega)]; omega⟩
    obtain ⟨r, hr'⟩ := ih R (wrap64 ((i : Int) - 1)) em.out (by omega) (fun j hj => hg j (by omega))
    refine ⟨r, fun k hk => ?_⟩
    obtain ⟨k, rfl⟩ : ∃ m, k = m + 1 := ⟨k - 1, by omega⟩
    obtain ⟨a1, a2⟩ := hr' k (by omega)
    have p1 := (prod_drop h0 h1 hl (i + 1) k (by omega)).1
    constructor
    · rw [spec_RankOfMixed.l1, if_pos (by omega), ep.out, if_pos (by omega), if_pos (by rw [List.length_map]; omega), Int.toNat_natCast, p1]
      simp only [Option.bind_some]
      rw [if_pos (by omega), if_pos (by omega)]
      have hR := hR2.out
      by_cases q : (Int.tmod (rd l (i : Int)) 2) = 1
      · rw [if_pos q] at hR ⊢
        rw [← hR]; exact a1
      · rw [if_neg q] at hR ⊢
        rw [← hR]; exact a1
    · rw [impl_RankOfMixed.l0, if_pos (by omega), if_pos (by omega), if_pos (by omega), if_pos (by rw [List.length_map]; omega), hr, hin', hm.out]
      simp only [Option.bind_some, if_true]
      have hR := hR2.out
      by_cases q : (Int.tmod (rd l (i : Int)) 2) = 1
      · rw [if_pos q] at hR ⊢
        rw [← hR]; exact a2
      · rw [if_neg q] at hR ⊢
        rw [← hR]; exact a2
theorem rank_bad {ns : List Nat} {l : List Int} (h0 : ∀ y ∈ ns, 0 < y) (h1 : ∀ y ∈ ns, y ≤ 20) (hl : ns.length ≤ 8) (hll : l.length = ns.length) (i : Nat) : ∀ (rank sz x8 : Int) (k : Nat), x8 = (i : Int) - 1 → i ≤ ns.length → (¬ ∀ j, j < i → okd (ns.map Int.ofNat) l j) → i < k →
    impl_RankOfMixed.l0 k (ns.map Int.ofNat) l rank sz x8 = some (0, false) := by
  induction i with
  | zero => intro rank sz x8 k _ _ hg _; exact absurd (fun j hj => absurd hj (Nat.not_lt_zero j)) hg
  | succ i ih =>
    intro rank sz x8 k hx hi hg hk
    have hx8 : x8 = (i : Int) := by omega
    subst hx8
    obtain ⟨k, rfl⟩ : ∃ m, k = m + 1 := ⟨k - 1, by omega⟩
    have hin : ns[i] ∈ ns := List.getElem_mem _
    have hno := h1 _ hin
    have hr : rd (ns.map Int.ofNat) (i : Int) = (ns[i] : Int) := rd_nat (by rw [List.getElem?_map, List.getElem?_eq_getElem (by omega)]; rfl)
    have em : Aside0 (wrap64 ((i : Int) - 1) = (i : Int) - 1) := ⟨w64 (by omega) (by omega)⟩
    rw [impl_RankOfMixed.l0, if_pos (by omega), if_pos (by omega), if_pos (by omega), if_pos (by rw [List.length_map]; omega), hr, in_val, w64 (x := (ns[i] : Int) - 1) (by omega) (by omega)]
    simp only [Option.bind_some]
    by_cases hb : 0 ≤ rd l (i : Int) ∧ rd l (i : Int) ≤ (ns[i] : Int) - 1
    · have hg' : ¬ ∀ j, j < i → okd (ns.map Int.ofNat) l j := fun hh => hg fun j hj => by
        by_cases e : j = i
        · subst e; unfold okd; rw [hr]; exact hb
        · exact hh j (by omega)
      rw [decide_eq_true hb, if_pos rfl]
      split
      · exact ih _ _ _ k em.out (by omega) hg' (by omega)
      · exact ih _ _ _ k em.out (by omega) hg' (by omega)
    · rw [decide_eq_false hb]; rfl
theorem rank_l0 {ns : List Nat} {l : List Int} (h1 : ∀ y ∈ ns, y ≤ 20) (hl : ns.length ≤ 8) (hll : l.length = ns.length) {X : Int} (hX : Aside0 (wrap64 ((l.length : Int) - 1) = X)) (d : Nat) : ∀ (i k K : Nat), K = k + d + 1 → i + d = ns.length → (∀ j, i ≤ j → j < ns.length → okd (ns.map Int.ofNat) l j) →
    spec_RankOfMixed.l0 K (ns.map Int.ofNat) l l (l.length : Int) (i : Int) = spec_RankOfMixed.l1 k (ns.map Int.ofNat) l 0 X := by
  induction d with
  | zero =>
    intro i k K hK hi hg
    subst hK
    rw [Nat.add_zero, spec_RankOfMixed.l0, if_neg (by omega), hX.out]
  | succ d ih =>
    intro i k K hK hi hg
    obtain ⟨K, rfl⟩ : ∃ m, K = m + 1 := ⟨K - 1, by omega⟩
    have hin : ns[i] ∈ ns := List.getElem_mem _
    have hno := h1 _ hin
    have hr : rd (ns.map Int.ofNat) (i : Int) = (ns[i] : Int) := rd_nat (by rw [List.getElem?_map, List.getElem?_eq_getElem (by omega)]; rfl)
    have hgi := hg i (by omega) (by omega)
    unfold okd at hgi
    rw [hr] at hgi
    have hin' : spec_l1In.f (rd l (i : Int)) 0 (wrap64 ((ns[i] : Int) - 1)) = some true := by
      rw [in_dec, w64 (by omega) (by omega), decide_eq_true hgi]
    rw [spec_RankOfMixed.l0, if_pos (by omega), if_pos (by omega), if_pos (by omega), if_pos (by rw [List.length_map]; omega), hr, hin']
    simp only [Option.bind_some, if_true]
    rw [w64 (x := (i : Int) + 1) (by omega) (by omega), show ((i : Int) + 1) = ((i + 1 : Nat) : Int) by omega]
    exact ih (i + 1) k K (by omega) (by omega) (fun j hj => hg j (by omega))
theorem rank_l0_bad {ns : List Nat} {l : List Int} (h1 : ∀ y ∈ ns, y ≤ 20) (hl : ns.length ≤ 8) (hll : l.length = ns.length) (d : Nat) : ∀ (i k : Nat), i + d = ns.length → (¬ ∀ j, i ≤ j → j < ns.length → okd (ns.map Int.ofNat) l j) → d < k →
    spec_RankOfMixed.l0 k (ns.map Int.ofNat) l l (l.length : Int) (i : Int) = some (0, false) := by
  induction d with
  | zero =>
    intro i k hi hg hk
    exact absurd (fun j hj hj2 => absurd hj2 (by omega)) hg
  | succ d ih =>
    intro i k hi hg hk
    obtain ⟨k, rfl⟩ : ∃ m, k = m + 1 := ⟨k - 1, by omega⟩
    have hin : ns[i] ∈ ns := List.getElem_mem _
    have hno := h1 _ hin
    have hr : rd (ns.map Int.ofNat) (i : Int) = (ns[i] : Int) := rd_nat (by rw [List.getElem?_map, List.getElem?_eq_getElem (by omega)]; rfl)
    rw [spec_RankOfMixed.l0, if_pos (by omega), if_pos (by omega), if_pos (by omega), if_pos (by rw [List.length_map]; omega), hr, in_dec, w64 (x := (ns[i] : Int) - 1) (by omega) (by omega)]
    simp only [Option.bind_some]
    by_cases hb : 0 ≤ rd l (i : Int) ∧ rd l (i : Int) ≤ (ns[i] : Int) - 1
    · rw [decide_eq_true hb, if_pos rfl, w64 (x := (i : Int) + 1) (by omega) (by omega), show ((i : Int) + 1) = ((i + 1 : Nat) : Int) by omega]
      refine ih (i + 1) k (by omega) (fun hh => hg fun j hj hj2 => ?_) (by omega)
      by_cases e : j = i
      · subst e; unfold okd; rw [hr]; exact hb
      · exact hh j (by omega) hj2
    · rw [decide_eq_false hb]; rfl
theorem rankOfMixed (l0 l1 : List Int) (hl : l0.length ≤ 2000000) : ∃ (r : Int) (b : Bool), ∀ k, l0.length + 60 < k → spec_RankOfMixed.f k l0 l1 = some (r, b) ∧ impl_RankOfMixed.f k l0 l1 = some (r, b) := by
  cases hq : lim l0 with
  | false =>
    refine ⟨0, false, fun k hk => ?_⟩
    obtain ⟨k, rfl⟩ : ∃ m, k = m + 1 := ⟨k - 1, by omega⟩
    unfold spec_RankOfMixed.f impl_RankOfMixed.f
    rw [nuLimits hl (by omega), areLimits, hq]
    exact ⟨rfl, rfl⟩
  | true =>
    obtain ⟨ns, rfl, hn, h0, h1⟩ := lim_nats hq
    by_cases hll : l1.length = ns.length
    · have hb : ((l1.length : Int) != ((ns.map Int.ofNat).length : Int)) = false := by rw [hll, List.length_map]; simp
      have ew : wrap64 ((l1.length : Int) - 1) = (ns.length : Int) - 1 := by rw [hll, w64 (by omega) (by omega)]
      have head : ∀ k, (ns.map Int.ofNat).length + 60 < k + 1 → spec_RankOfMixed.f (k + 1) (ns.map Int.ofNat) l1 = spec_RankOfMixed.l0 k (ns.map Int.ofNat) l1 l1 (l1.length : Int) 0 ∧ impl_RankOfMixed.f (k + 1) (ns.map Int.ofNat) l1 = impl_RankOfMixed.l0 k (ns.map Int.ofNat) l1 0 1 ((ns.length : Int) - 1) := by
        intro k hk
        unfold spec_RankOfMixed.f impl_RankOfMixed.f
        rw [nuLimits hl (by omega), areLimits, hq, hb]
        simp only [Option.bind_some, if_true]
        rw [spec_RankOfMixed.j0, impl_RankOfMixed.j0, ew]
        simp only [Bool.false_eq_true, if_false]
        exact ⟨by first | rfl | trivial, by first | rfl | trivial⟩
      by_cases hg : ∀ j, j < ns.length → okd (ns.map Int.ofNat) l1 j
      · obtain ⟨r, hr⟩ := rank_l1 h0 h1 hn.2 hll ns.length 0 ((ns.length : Int) - 1) rfl (Nat.le_refl _) hg
        refine ⟨r, true, fun k hk => ?_⟩
        obtain ⟨k, rfl⟩ : ∃ m, k = m + 1 := ⟨k - 1, by omega⟩
        rw [(head k (by omega)).1, (head k (by omega)).2]
        rw [List.length_map] at hk
        obtain ⟨m, rfl⟩ : ∃ m, k = m + ns.length + 1 := ⟨k - ns.length - 1, by omega⟩
        have e := rank_l0 h1 hn.2 hll ⟨ew⟩ ns.length 0 m (m + ns.length + 1) rfl (by omega) (fun j _ => hg j)
        rw [(hr m (by omega)).1] at e
        have e2 := (hr (m + ns.length + 1) (by omega)).2
        rw [List.drop_of_length_le (Nat.le_refl _)] at e2
        exact ⟨e, e2⟩
      · refine ⟨0, false, fun k hk => ?_⟩
        obtain ⟨k, rfl⟩ : ∃ m, k = m + 1 := ⟨k - 1, by omega⟩
        rw [(head k (by omega)).1, (head k (by omega)).2]
        rw [List.length_map] at hk
        exact ⟨rank_l0_bad h1 hn.2 hll ns.length 0 k (by omega) (fun hh => hg fun j hj => hh j (by omega) hj) (by omega), rank_bad h0 h1 hn.2 hll ns.length 0 1 ((ns.length : Int) - 1) k rfl (Nat.le_refl _) hg (by omega)⟩
    · have hb : ((l1.length : Int) != ((ns.map Int.ofNat).length : Int)) = true := by rw [List.length_map]; simp; omega
      refine ⟨0, false, fun k hk => ?_⟩
      obtain ⟨k, rfl⟩ : ∃ m, k = m + 1 := ⟨k - 1, by omega⟩
      unfold spec_RankOfMixed.f impl_RankOfMixed.f
      rw [nuLimits hl (by omega), areLimits, hq, hb]
      exact ⟨rfl, rfl⟩
theorem FnExactRankOfMixed : laws_FnExactRankOfMixed.Pure := by
  intro l0 l1 _ _ _ _ _ _
  refine ⟨l0.length + l1.length + 100, ?_⟩
  unfold laws_FnExactRankOfMixed.f
  by_cases hl : (l0.length : Int) > 1048576
  · rw [if_pos hl]
  by_cases hl1 : (l1.length : Int) > 1048576
  · rw [if_neg hl, if_pos hl1]
  obtain ⟨r, b, H⟩ := rankOfMixed l0 l1 (by omega)
  obtain ⟨k, hk⟩ : ∃ k, l0.length + l1.length + 100 = k + 1 := ⟨l0.length + l1.length + 99, by omega⟩
  rw [if_neg hl, if_neg hl1, toIntS (by omega) (by omega), toIntS (by omega) (by omega)]
  simp only [Option.bind_some]
  rw [(H _ (by omega)).1, (H _ (by omega)).2, hk]
  simp only [Option.bind_some, if_true, bne_self_eq_false]
  simp only [laws_FnExactRankOfMixed.j0, Bool.false_eq_true, if_false]
  rw [toIntS (by omega) (by omega), toIntS (by omega) (by omega)]
  simp only [Option.bind_some]
  rw [eqIntS (by omega) (by omega), eqIntS (by omega) (by omega)]
  simp

end Go.Proofs.Ytomaodhlcacobaa.Pure
