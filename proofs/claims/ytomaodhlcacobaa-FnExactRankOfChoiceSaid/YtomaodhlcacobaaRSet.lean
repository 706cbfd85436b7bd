/- What the printed ranks of sets are. -/
import Derived.Test.YtomaodhlcacobaaAx1
import Derived.Test.YtomaodhlcacobaaAx7
import Derived.Test.YtomaodhlcacobaaAx8
import Derived.Test.YtomaodhlcacobaaRise
set_option linter.unusedVariables false
set_option linter.unusedSimpArgs false
namespace Go.Proofs.Ytomaodhlcacobaa.Pure
open Go.RowKit Go.Proofs.Ytomaodhlcacobaa.A Go.Proofs.YtomaodhlcacobaaW.PrintWords Go.Proofs.YtomaodhlcacobaaW.PrintLast Go.Proofs.YtomaodhlcacobaaW.PrintMore

theorem getElem?_map_ofNat {ns : List Nat} {i : Nat} : (ns.map Int.ofNat)[i]? = (ns[i]?).map Int.ofNat := List.getElem?_map
theorem specRankOfSet_l0 {ns : List Nat} (hl : ns.length ≤ 20) (hall : ∀ x ∈ ns, x < 20) (r : List Nat) : ∀ (k i g : Nat), ns.drop i = r → r.length + 64 < k → g + M.p2sum r < 2 ^ 60 →
    spec_RankOfSet.l0 k (g : Int) (ns.map Int.ofNat) (ns.length : Int) (i : Int) = some ((M.inv (g + M.p2sum r) : Int), true) := by
  induction r with
  | nil =>
    intro k i g hd hk hg
    obtain ⟨k, rfl⟩ : ∃ m, k = m + 1 := ⟨k - 1, by omega⟩
    have : ns.length ≤ i := List.drop_eq_nil_iff.1 hd
    simp only [M.p2sum, Nat.add_zero] at hg ⊢
    simp only [spec_RankOfSet.l0]
    rw [if_neg (by omega), nuBack (by omega) (by simp at hk; omega)]; rfl
  | cons x r ih =>
    intro k i g hd hk hg
    obtain ⟨k, rfl⟩ : ∃ m, k = m + 1 := ⟨k - 1, by omega⟩
    obtain ⟨h2, h3, h4⟩ := getElem?_drop_cons hd
    have hx : x < 20 := hall x (List.mem_of_getElem? h2)
    have h2' : (ns.map Int.ofNat)[i]? = some (x : Int) := by rw [getElem?_map_ofNat, h2]; rfl
    have hp : 2 ^ x ≤ 2 ^ 20 := Nat.pow_le_pow_right (by decide) (by omega)
    have hpos := Nat.two_pow_pos x
    simp only [M.p2sum] at hg ⊢
    simp only [spec_RankOfSet.l0, List.length_map]
    rw [if_pos (by omega), if_pos (by omega), if_pos (by omega), rd_nat h2', if_pos (by omega), shl_one (by omega), w64 (by omega) (by omega), w64 (by omega) (by omega)]
    rw [show ((i : Int) + 1) = ((i + 1 : Nat) : Int) by omega, show ((g : Int) + ((2 ^ x : Nat) : Int)) = ((g + 2 ^ x : Nat) : Int) by omega]
    rw [ih k (i + 1) (g + 2 ^ x) h3 (by simp at hk; omega) (by omega), Nat.add_assoc]
theorem implRankOfSet_l0 {ns : List Nat} (hl : ns.length ≤ 20) (hall : ∀ x ∈ ns, x < 20) (r : List Nat) : ∀ (k i g : Nat), ns.drop i = r → r.length + 64 < k → r.Pairwise (· < ·) → (∀ x ∈ r, g < 2 ^ x) → g + M.p2sum r < 2 ^ 60 →
    impl_RankOfSet.l0 k (g : Int) (ns.map Int.ofNat) (ns.length : Int) (i : Int) = some ((M.inv (g + M.p2sum r) : Int), true) := by
  induction r with
  | nil =>
    intro k i g hd hk _ _ hg
    obtain ⟨k, rfl⟩ : ∃ m, k = m + 1 := ⟨k - 1, by omega⟩
    have : ns.length ≤ i := List.drop_eq_nil_iff.1 hd
    simp only [M.p2sum, Nat.add_zero] at hg ⊢
    simp only [impl_RankOfSet.l0]
    rw [if_neg (by omega), unreflected (by omega) (by simp at hk; omega)]; rfl
  | cons x r ih =>
    intro k i g hd hk hp hlt hg
    obtain ⟨k, rfl⟩ : ∃ m, k = m + 1 := ⟨k - 1, by omega⟩
    obtain ⟨h2, h3, h4⟩ := getElem?_drop_cons hd
    obtain ⟨hp1, hp2⟩ := List.pairwise_cons.1 hp
    have hx : x < 20 := hall x (List.mem_of_getElem? h2)
    have h2' : (ns.map Int.ofNat)[i]? = some (x : Int) := by rw [getElem?_map_ofNat, h2]; rfl
    have hpw : 2 ^ x ≤ 2 ^ 20 := Nat.pow_le_pow_right (by decide) (by omega)
    have hpos := Nat.two_pow_pos x
    have hgx := hlt x (by simp)
    have hor : g ||| 2 ^ x = g + 2 ^ x := by
      have := Nat.two_pow_add_eq_or_of_lt hgx 1
      rw [Nat.mul_one] at this
      rw [Nat.or_comm, ← this, Nat.add_comm]
    simp only [M.p2sum] at hg ⊢
    simp only [impl_RankOfSet.l0, List.length_map]
    rw [if_pos (by omega), if_pos (by omega), if_pos (by omega), rd_nat h2', if_pos (by omega), shl_one (by omega), or_nat (by omega) (by omega), hor, w64 (by omega) (by omega)]
    rw [show ((i : Int) + 1) = ((i + 1 : Nat) : Int) by omega]
    rw [ih k (i + 1) (g + 2 ^ x) h3 (by simp at hk; omega) hp2 (fun y hy => ?_) (by omega), Nat.add_assoc]
    have := hp1 y hy
    have h5 : 2 ^ (x + 1) ≤ 2 ^ y := Nat.pow_le_pow_right (by decide) this
    rw [Nat.pow_succ] at h5; omega
/-- RankOfSet of a set -/
theorem rankOfSet {s : Nat} {ns : List Nat} {k : Nat} (hs : 1 ≤ s ∧ s ≤ 20) (h : Asc s ns) (hk : 100 < k) :
    impl_RankOfSet.f k (s : Int) (ns.map Int.ofNat) = some ((M.inv (M.p2sum ns) : Int), true) ∧ spec_RankOfSet.f k (s : Int) (ns.map Int.ofNat) = some ((M.inv (M.p2sum ns) : Int), true) := by
  have hl := asc_length h
  have hp := p2sum_lt h
  have hpw : 2 ^ s ≤ 2 ^ 20 := Nat.pow_le_pow_right (by decide) hs.2
  have hall : ∀ x ∈ ns, x < 20 := fun x hx => by have := h.2 x hx; omega
  have hr := asc_rise h
  have e : wrap64 ((s : Int) - 1) = (s : Int) - 1 := w64 (by omega) (by omega)
  have h1 : (s : Int) ≥ 1 := by omega
  have h2 : (s : Int) ≤ 20 := by omega
  obtain ⟨k, rfl⟩ : ∃ m, k = m + 1 := ⟨k - 1, by omega⟩
  constructor
  · unfold impl_RankOfSet.f impl_isSize.f impl_in.f
    rw [isSet (by simp; omega) (by simp; omega), e, hr]
    simp only [h1, h2, if_true, decide_true, Option.bind_some, Bool.not_true, impl_RankOfSet.j0, Bool.false_eq_true, if_false, List.length_map]
    have := implRankOfSet_l0 (by omega) hall ns k 0 0 (by simp) (by omega) h.1 (fun x _ => Nat.two_pow_pos x) (by omega)
    simpa using this
  · unfold spec_RankOfSet.f spec_nuSize.f spec_l1In.f
    rw [l1Rising (by simp; omega) (by simp; omega), e, hr]
    simp only [h1, h2, if_true, decide_true, Option.bind_some, Bool.not_true, spec_RankOfSet.j0, Bool.false_eq_true, if_false, List.length_map]
    have := specRankOfSet_l0 (by omega) hall ns k 0 0 (by simp) (by omega) (by omega)
    simpa using this
theorem rankOfSet_no {a0 : Int} {l : List Int} {k : Nat} (hl : l.length ≤ 2000000) (h : ¬ ∃ (s : Nat) (ns : List Nat), a0 = s ∧ l = ns.map Int.ofNat ∧ (1 ≤ s ∧ s ≤ 20) ∧ Asc s ns) (hk : l.length + 1 < k) :
    impl_RankOfSet.f k a0 l = some (0, false) ∧ spec_RankOfSet.f k a0 l = some (0, false) := by
  obtain ⟨k, rfl⟩ : ∃ m, k = m + 1 := ⟨k - 1, by omega⟩
  unfold impl_RankOfSet.f impl_isSize.f impl_in.f spec_RankOfSet.f spec_nuSize.f spec_l1In.f
  rw [isSet hl (by omega), l1Rising hl (by omega)]
  simp only [impl_RankOfSet.j0, spec_RankOfSet.j0]
  by_cases h1 : a0 ≥ 1
  · by_cases h2 : a0 ≤ 20
    · obtain ⟨s, rfl⟩ := Int.eq_ofNat_of_zero_le (show 0 ≤ a0 by omega)
      rw [w64 (by omega) (by omega)]
      cases hr : rise ((s : Int) - 1) (-1) l with
      | false => simp [h1, h2]
      | true =>
        obtain ⟨ns, h3, h4⟩ := rise_asc hr
        exact absurd ⟨s, ns, rfl, h3, ⟨by omega, by omega⟩, h4⟩ h
    · simp [h1, h2]
  · simp [h1]

end Go.Proofs.Ytomaodhlcacobaa.Pure
