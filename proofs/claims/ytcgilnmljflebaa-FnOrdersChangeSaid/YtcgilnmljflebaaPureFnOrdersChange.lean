/- The great law of orders: its printed function always answers yes; no condition beyond the kinds of the numbers and the sizes that any argument has. -/
import Derived.Test.YtcgilnmljflebaaAx1
import Derived.Test.YtcgilnmljflebaaAx10
import Derived.Test.YtcgilnmljflebaaAx11
import Derived.Test.YtcgilnmljflebaaAx12
import Derived.Test.YtcgilnmljflebaaAx13
import Derived.Test.YtcgilnmljflebaaAx14
import Derived.Test.YtcgilnmljflebaaAx2
import Derived.Test.YtcgilnmljflebaaAx7
import Derived.Test.YtcgilnmljflebaaAx8
import Derived.Test.YtcgilnmljflebaaAx9
import Derived.Test.YtcgilnmljflebaaDraw
set_option linter.unusedVariables false
set_option linter.unusedSimpArgs false
namespace Go.Proofs.Ytcgilnmljflebaa.Pure
open Go.RowKit Go.Proofs.Ytcgilnmljflebaa.A Go.Proofs.YtcgilnmljflebaaW.PrintWords Go.Proofs.YtcgilnmljflebaaW.PrintLast Go.Proofs.YtcgilnmljflebaaW.PrintMore
theorem mixedRank_yes {ns ds : List Nat} (h : Lm ns) (hD : M.Dig ns ds) {k : Nat} (hk : 80 < k) : impl_RankOfMixed.f k (ns.map Int.ofNat) (ds.map Int.ofNat) = some ((M.mrk ns ds : Int), true) := by
  rcases mixedRank (ns.map Int.ofNat) (ds.map Int.ofNat) (by rw [List.length_map]; have := h.1.2; omega) with ⟨ms, es, e1, e2, _, _, hv⟩ | ⟨hn, _⟩
  · rw [← mapInj e1, ← mapInj e2] at hv
    exact (hv k hk).2
  · exact absurd ⟨ns, ds, rfl, rfl, h, hD⟩ hn
theorem rankOfSwapped_yes {ns : List Nat} (hp : M.Perm ns.length ns) (hn : 1 ≤ ns.length ∧ ns.length ≤ 10) {k : Nat} (hk : 400 < k) : impl_RankOfSwapped.f k (ns.map Int.ofNat) = some ((M.srk ns.length ns : Int), true) := by
  rcases rankOfSwapped (ns.map Int.ofNat) (by rw [List.length_map]; omega) with ⟨ms, e1, _, _, hv⟩ | ⟨hno, _⟩
  · rw [← mapInj e1] at hv
    exact (hv k hk).2
  · exact absurd ⟨ns, rfl, hp, hn⟩ hno
theorem rd_eq {a b : List Nat} {i j : Nat} (h : a[i]? = b[j]?) : rd (a.map Int.ofNat) (i : Int) = rd (b.map Int.ofNat) (j : Int) := by
  unfold rd
  rw [Int.toNat_natCast, Int.toNat_natCast, List.getD, List.getD, List.getElem?_map, List.getElem?_map, h]
/-- digits and their rank -/
def RM (x65 x66 : List Int) (x67 : Int) (x68 : Bool) : Prop := (x68 = true ∧ ∃ ns ds : List Nat, x65 = ns.map Int.ofNat ∧ x66 = ds.map Int.ofNat ∧ Lm ns ∧ M.Dig ns ds ∧ x67 = (M.mrk ns ds : Int)) ∨ x68 = false
theorem j10_ok {x65 x66 : List Int} {x67 : Int} {x68 : Bool} (h : RM x65 x66 x67 x68) {k : Nat} (hk : 1000 < k) : laws_FnOrdersChange.j10 k x65 x66 x67 x68 = some true := by
  obtain ⟨k, rfl⟩ : ∃ m, k = m + 1 := ⟨k - 1, by omega⟩
  rw [laws_FnOrdersChange.j10]
  rcases h with ⟨rfl, ns, ds, rfl, rfl, hL, hD, rfl⟩ | rfl
  · obtain ⟨e1, e2⟩ := M.mix_mrk hD
    have hl := dig_length hD
    have hL8 := hL.1.2
    rw [if_pos rfl, (mixedAt_yes hL e2 (by omega)).1, e1]
    simp only [Option.bind_some, if_true]
    rw [xSame_self (by rw [List.length_map]; omega) (by rw [List.length_map]; omega)]
    rfl
  · rw [if_neg (by decide)]
/-- a rank and its digits -/
def MXd (x59 : List Int) (x60 : Int) (x61 : List Int) (x62 : Bool) : Prop := (x62 = true ∧ ∃ (ns : List Nat) (n : Nat), x59 = ns.map Int.ofNat ∧ Lm ns ∧ x60 = (n : Int) ∧ n < M.prod ns ∧ x61 = (M.mix ns n).map Int.ofNat) ∨ x62 = false
theorem j9_ok {x59 : List Int} {x60 : Int} {x61 : List Int} {x62 : Bool} {x65 x66 : List Int} {x67 : Int} {x68 : Bool} (h : MXd x59 x60 x61 x62) (HJ : ∀ k, 1000 < k → laws_FnOrdersChange.j10 k x65 x66 x67 x68 = some true) {k : Nat} (hk : 1001 < k) : laws_FnOrdersChange.j9 k x59 x60 x61 x62 x65 x66 x67 x68 = some true := by
  obtain ⟨k, rfl⟩ : ∃ m, k = m + 1 := ⟨k - 1, by omega⟩
  rw [laws_FnOrdersChange.j9]
  rcases h with ⟨rfl, ns, n, rfl, hL, rfl, hn, rfl⟩ | rfl
  · have hp : M.prod ns ≤ 25600000000 := prod_le8 hL.2.2 hL.1.2
    have hL8 := hL.1.2
    have ew : Aside0 (wrap64 ((n : Int) + 1) = ((n + 1 : Nat) : Int)) := ⟨by rw [w64 (by omega) (by omega)]; omega⟩
    rw [if_pos rfl, mixedRank_yes hL (M.mix_dig hL.2.1 hn) (by omega), M.mrk_mix hL.2.1 hn, ew.out]
    by_cases q : n + 1 < M.prod ns
    · rw [(mixedAt_yes hL q (by omega)).1]
      simp only [Option.bind_some, if_true]
      rw [xParts (by rw [M.mix_length, M.mix_length]) (by rw [M.mix_length]; omega) (by rw [M.mix_length]; omega), M.mix_step hL.2.1 q]
      simp only [Option.bind_some]
      rw [if_pos (show ((1 : Nat) : Int) = 1 from rfl)]
      exact HJ k (by omega)
    · have hno := (mixedAt_no (l := ns.map Int.ofNat) (a1 := ((n + 1 : Nat) : Int)) (k := k) (by rw [List.length_map]; omega) (by
        rintro ⟨ms, m, e1, _, e2, e3⟩
        rw [← mapInj e1] at e3
        omega) (by rw [List.length_map]; omega)).1
      rw [hno]
      simp only [Option.bind_some, if_true, Bool.false_eq_true, if_false]
      exact HJ k (by omega)
  · rw [if_neg (by decide)]
    exact HJ k (by omega)
/-- a list and its rank in the order by swaps -/
def RSw (x54 : List Int) (x55 : Int) (x56 : Bool) : Prop := (x56 = true ∧ ∃ ns : List Nat, x54 = ns.map Int.ofNat ∧ M.Perm ns.length ns ∧ (1 ≤ ns.length ∧ ns.length ≤ 10) ∧ x55 = (M.srk ns.length ns : Int)) ∨ x56 = false
theorem j8_ok {x54 : List Int} {x55 : Int} {x56 : Bool} {x59 : List Int} {x60 : Int} {x61 : List Int} {x62 : Bool} {x65 x66 : List Int} {x67 : Int} {x68 : Bool} (h : RSw x54 x55 x56) (HJ : ∀ k, 1001 < k → laws_FnOrdersChange.j9 k x59 x60 x61 x62 x65 x66 x67 x68 = some true) {k : Nat} (hk : 1002 < k) : laws_FnOrdersChange.j8 k x54 x55 x56 x59 x60 x61 x62 x65 x66 x67 x68 = some true := by
  obtain ⟨k, rfl⟩ : ∃ m, k = m + 1 := ⟨k - 1, by omega⟩
  rw [laws_FnOrdersChange.j8]
  rcases h with ⟨rfl, ns, rfl, hp, hn, rfl⟩ | rfl
  · obtain ⟨e1, e2⟩ := M.sw_srk hp
    rw [if_pos rfl, List.length_map, (swappedAt_yes hn.1 hn.2 e2 (by omega)).1, e1]
    simp only [Option.bind_some, if_true]
    rw [xSame_self (by rw [List.length_map]; omega) (by rw [List.length_map]; omega)]
    simp only [Option.bind_some, if_true]
    exact HJ k (by omega)
  · rw [if_neg (by decide)]
    exact HJ k (by omega)
/-- the swap behind a list -/
def SPl (x44 x45 : Int) (x46 : List Int) (x50 : Int) (x51 : Bool) : Prop := (x51 = true ∧ ∃ s r p : Nat, x44 = s ∧ x45 = r ∧ 1 ≤ s ∧ s ≤ 10 ∧ r + 1 < M.fact s ∧ M.Ex p (M.sw s r) (M.sw s (r + 1)) ∧ x50 = (p : Int) ∧ x46 = (M.sw s r).map Int.ofNat) ∨ x51 = false
theorem j7_ok {x44 x45 : Int} {x46 : List Int} {x50 : Int} {x51 : Bool} {x54 : List Int} {x55 : Int} {x56 : Bool} {x59 : List Int} {x60 : Int} {x61 : List Int} {x62 : Bool} {x65 x66 : List Int} {x67 : Int} {x68 : Bool} (h : SPl x44 x45 x46 x50 x51) (HJ : ∀ k, 1002 < k → laws_FnOrdersChange.j8 k x54 x55 x56 x59 x60 x61 x62 x65 x66 x67 x68 = some true) {k : Nat} (hk : 1003 < k) : laws_FnOrdersChange.j7 k x44 x45 x46 x50 x51 x54 x55 x56 x59 x60 x61 x62 x65 x66 x67 x68 = some true := by
  obtain ⟨k, rfl⟩ : ∃ m, k = m + 1 := ⟨k - 1, by omega⟩
  rw [laws_FnOrdersChange.j7]
  rcases h with ⟨rfl, s, r, p, rfl, rfl, h1, h2, hr, hE, rfl, rfl⟩ | rfl
  · have hf := fact_bound (s := s) (by omega)
    obtain ⟨g1, g2, g3, g4⟩ := ex_get hE
    have l1 : ((M.sw s r).map Int.ofNat).length = s := by rw [List.length_map, M.sw_length]
    have l2 : ((M.sw s (r + 1)).map Int.ofNat).length = s := by rw [List.length_map, M.sw_length]
    rw [M.sw_length] at g2
    have ew : Aside0 (wrap64 ((r : Int) + 1) = ((r + 1 : Nat) : Int)) := ⟨by rw [w64 (by omega) (by omega)]; omega⟩
    have ep : Aside0 (wrap64 ((p : Int) + 1) = ((p + 1 : Nat) : Int)) := ⟨by rw [w64 (by omega) (by omega)]; omega⟩
    have c1 : (0 : Int) ≤ (p : Int) := by omega
    have c2 : (p : Int) < (s : Int) := by omega
    have c3 : (0 : Int) ≤ ((p + 1 : Nat) : Int) := by omega
    have c4 : ((p + 1 : Nat) : Int) < (s : Int) := by omega
    rw [if_pos rfl, ew.out, (swappedAt_yes h1 h2 hr (by omega)).1]
    simp only [Option.bind_some, if_true]
    rw [xParts (by rw [M.sw_length, M.sw_length]) (by rw [M.sw_length]; omega) (by rw [M.sw_length]; omega), ex_dif hE]
    simp only [Option.bind_some]
    rw [if_pos (show ((2 : Nat) : Int) = 2 from rfl), ep.out, l1, l2, if_pos c1, if_pos c2, if_pos c3, if_pos c4, if_pos (rd_eq g3), if_pos c4, if_pos c2, if_pos (rd_eq g4)]
    exact HJ k (by omega)
  · rw [if_neg (by decide)]
    exact HJ k (by omega)
/-- a list of the order by swaps -/
def SWd (x44 x45 : Int) (x46 : List Int) (x47 : Bool) : Prop := (x47 = true ∧ ∃ s r : Nat, x44 = s ∧ x45 = r ∧ 1 ≤ s ∧ s ≤ 10 ∧ r < M.fact s ∧ x46 = (M.sw s r).map Int.ofNat) ∨ x47 = false
theorem j6_ok {x44 x45 : Int} {x46 : List Int} {x47 : Bool} {x50 : Int} {x51 : Bool} {x54 : List Int} {x55 : Int} {x56 : Bool} {x59 : List Int} {x60 : Int} {x61 : List Int} {x62 : Bool} {x65 x66 : List Int} {x67 : Int} {x68 : Bool} (h : SWd x44 x45 x46 x47) (HJ : ∀ k, 1003 < k → laws_FnOrdersChange.j7 k x44 x45 x46 x50 x51 x54 x55 x56 x59 x60 x61 x62 x65 x66 x67 x68 = some true) {k : Nat} (hk : 1004 < k) : laws_FnOrdersChange.j6 k x44 x45 x46 x47 x50 x51 x54 x55 x56 x59 x60 x61 x62 x65 x66 x67 x68 false = some true := by
  obtain ⟨k, rfl⟩ : ∃ m, k = m + 1 := ⟨k - 1, by omega⟩
  rw [laws_FnOrdersChange.j6, if_neg (by decide)]
  rcases h with ⟨rfl, s, r, rfl, rfl, h1, h2, hr, rfl⟩ | rfl
  · have hp : M.Perm (M.sw s r).length (M.sw s r) := by rw [M.sw_length]; exact M.sw_perm s r
    have hv := rankOfSwapped_yes hp (by rw [M.sw_length]; exact ⟨h1, h2⟩) (k := k) (by omega)
    rw [M.sw_length, M.srk_sw hr] at hv
    rw [if_pos rfl, hv]
    simp only [Option.bind_some, if_true]
    rw [List.length_map, M.sw_length, if_pos rfl]
    exact HJ k (by omega)
  · rw [if_neg (by decide)]
    exact HJ k (by omega)
theorem swBoth (a0 a1 : Int) : ∃ (L : List Int) (nine : Bool) (p : Int) (eleven : Bool), SWd a0 a1 L nine ∧ SPl a0 a1 L p eleven ∧ L.length ≤ 10 ∧ (eleven = true → nine = true) ∧ ∀ k, 100 < k → impl_SwappedAt.f k a0 a1 = some (L, nine) ∧ spec_SwappedAt.f k a0 a1 = some (L, nine) ∧ impl_SwapPlace.f k a0 a1 = some (p, eleven) ∧ spec_SwapPlace.f k a0 a1 = some (p, eleven) := by
  by_cases h : SwO a0 a1
  · obtain ⟨s, r, rfl, rfl, h1, h2, h3⟩ := h
    rcases swapPlace (s : Int) (r : Int) with ⟨s', r', p, e1, e2, _, _, h4, hE, hv⟩ | hv
    · have e1 : s' = s := by omega
      have e2 : r' = r := by omega
      subst e1 e2
      exact ⟨_, true, (p : Int), true, .inl ⟨rfl, s', r', rfl, rfl, h1, h2, h3, rfl⟩, .inl ⟨rfl, s', r', p, rfl, rfl, h1, h2, h4, hE, rfl, rfl⟩, by rw [List.length_map, M.sw_length]; exact h2, fun _ => rfl, fun k hk => ⟨(swappedAt_yes h1 h2 h3 (by omega)).1, (swappedAt_yes h1 h2 h3 (by omega)).2, (hv k (by omega)).2, (hv k (by omega)).1⟩⟩
    · exact ⟨_, true, 0, false, .inl ⟨rfl, s, r, rfl, rfl, h1, h2, h3, rfl⟩, .inr rfl, by rw [List.length_map, M.sw_length]; exact h2, fun _ => rfl, fun k hk => ⟨(swappedAt_yes h1 h2 h3 (by omega)).1, (swappedAt_yes h1 h2 h3 (by omega)).2, (hv k (by omega)).2, (hv k (by omega)).1⟩⟩
  · rcases swapPlace a0 a1 with ⟨s', r', p, e1, e2, h1, h2, h4, hE, hv⟩ | hv
    · exact absurd ⟨s', r', e1, e2, h1, h2, by omega⟩ h
    · exact ⟨[], false, 0, false, .inr rfl, .inr rfl, by simp, by simp, fun k hk => ⟨(swappedAt_no h (by omega)).1, (swappedAt_no h (by omega)).2, (hv k (by omega)).2, (hv k (by omega)).1⟩⟩
theorem rsBoth (l : List Int) (hl : l.length ≤ 100) : ∃ (r : Int) (b : Bool), RSw l r b ∧ ∀ k, 600 < k → impl_RankOfSwapped.f k l = some (r, b) ∧ spec_RankOfSwapped.f k l = some (r, b) := by
  rcases rankOfSwapped l (by omega) with ⟨ns, e, hp, hn, hv⟩ | ⟨_, hv⟩
  · exact ⟨_, true, .inl ⟨rfl, ns, e, hp, hn, rfl⟩, fun k hk => ⟨(hv k (by omega)).2, (hv k (by omega)).1⟩⟩
  · exact ⟨0, false, .inr rfl, fun k hk => ⟨(hv k (by omega)).2, (hv k (by omega)).1⟩⟩
theorem mxBoth (l : List Int) (a1 : Int) (hl : l.length ≤ 100) : ∃ (L : List Int) (b : Bool), MXd l a1 L b ∧ L.length ≤ 10 ∧ ∀ k, 600 < k → impl_MixedAt.f k l a1 = some (L, b) ∧ spec_MixedAt.f k l a1 = some (L, b) := by
  by_cases h : ∃ (ns : List Nat) (n : Nat), l = ns.map Int.ofNat ∧ Lm ns ∧ a1 = (n : Int) ∧ n < M.prod ns
  · obtain ⟨ns, n, rfl, hL, rfl, hn⟩ := h
    exact ⟨_, true, .inl ⟨rfl, ns, n, rfl, hL, rfl, hn, rfl⟩, by rw [List.length_map, M.mix_length]; have := hL.1.2; omega, fun k hk => mixedAt_yes hL hn (by omega)⟩
  · exact ⟨[], false, .inr rfl, by simp, fun k hk => mixedAt_no (by omega) h (by omega)⟩
theorem rmBoth (l0 l1 : List Int) (hl : l0.length ≤ 100) : ∃ (r : Int) (b : Bool), RM l0 l1 r b ∧ ∀ k, 600 < k → impl_RankOfMixed.f k l0 l1 = some (r, b) ∧ spec_RankOfMixed.f k l0 l1 = some (r, b) := by
  rcases mixedRank l0 l1 (by omega) with ⟨ns, ds, e1, e2, hL, hD, hv⟩ | ⟨_, hv⟩
  · exact ⟨_, true, .inl ⟨rfl, ns, ds, e1, e2, hL, hD, rfl⟩, fun k hk => ⟨(hv k (by omega)).2, (hv k (by omega)).1⟩⟩
  · exact ⟨0, false, .inr rfl, fun k hk => ⟨(hv k (by omega)).2, (hv k (by omega)).1⟩⟩
theorem j5_ok {x1 : List Int} (h : RD x1 0) {k : Nat} (hk : 1005 < k) : laws_FnOrdersChange.j5 k x1 = some true := by
  obtain ⟨k, rfl⟩ : ∃ m, k = m + 1 := ⟨k - 1, by omega⟩
  obtain ⟨p, r, d1⟩ := dSwappedAt h
  obtain ⟨q, hq, d2⟩ := dRankOfSwapped h
  obtain ⟨lm, t, hlm, d3⟩ := dMixedAt h
  obtain ⟨bo, di, hbo, hdi, d4⟩ := dRankOfMixed h
  obtain ⟨L, nine, a, eleven, HW, HP, hL, h119, v1⟩ := swBoth p r
  obtain ⟨told, thirteen, HR, v2⟩ := rsBoth q (by omega)
  obtain ⟨mx, fifteen, HM, hmx, v3⟩ := mxBoth lm t (by omega)
  obtain ⟨rs, seventeen, HD, v4⟩ := rmBoth bo di (by omega)
  have d1 := d1 k (by omega)
  have d2 := d2 k (by omega)
  have d3 := d3 k (by omega)
  have d4 := d4 k (by omega)
  have v1 := v1 k (by omega)
  have v2 := v2 k (by omega)
  have v3 := v3 k (by omega)
  have v4 := v4 k (by omega)
  have s1 := xSame_self (l := L) (k := k) (by omega) (by omega)
  have s2 := xSame_self (l := mx) (k := k) (by omega) (by omega)
  have hj := j6_ok HW (fun k hk => j7_ok HP (fun k hk => j8_ok HR (fun k hk => j9_ok HM (fun k hk => j10_ok HD hk) hk) hk) hk) (k := k) (by omega)
  rw [laws_FnOrdersChange.j5, d1, Option.bind_some]
  simp only
  rw [v1.1, Option.bind_some, v1.2.1, Option.bind_some, v1.2.2.1, Option.bind_some, v1.2.2.2, Option.bind_some, d2, Option.bind_some, v2.1, Option.bind_some, v2.2, Option.bind_some, d3, Option.bind_some]
  simp only
  rw [v3.1, Option.bind_some, v3.2, Option.bind_some, d4, Option.bind_some]
  simp only
  rw [v4.1, Option.bind_some, v4.2, Option.bind_some]
  simp only [bne_self_eq_false, Bool.false_eq_true, if_false, if_true, s1, s2, Option.bind_some]
  cases eleven with
  | true =>
    rw [h119 rfl] at hj ⊢
    rw [if_pos rfl]
    exact hj
  | false =>
    rw [if_neg (by decide)]
    exact hj
theorem j4_ok {x1 : List Int} (h : RD x1 0) {x26 : Int} {x27 : List Int} {x28 : Int} {x29 : Bool} {x32 : Int} (hR : RC x26 x27 x28 x29 x32) {k : Nat} (hk : 1006 < k) : laws_FnOrdersChange.j4 k x1 x26 x27 x28 x29 x32 = some true := by
  obtain ⟨k, rfl⟩ : ∃ m, k = m + 1 := ⟨k - 1, by omega⟩
  have hj := j5_ok h (k := k) (by omega)
  rw [laws_FnOrdersChange.j4]
  rcases hR with ⟨rfl, s, ns, rfl, rfl, hs, ha, rfl, rfl⟩ | rfl
  · obtain ⟨b1, b2⟩ := rk_bound hs.2 ha
    obtain ⟨e1, e2⟩ := set_of ha
    have e3 : chL s ns.length (M.rk ns.reverse) = ns.map Int.ofNat := by
      have := M.chr_rk (asc_desc ha).1 (asc_desc ha).2
      rw [List.length_reverse] at this
      rw [chL_nat, this, List.reverse_reverse]
    have hx := xSame_self (l := ns.map Int.ofNat) (k := k) (by rw [List.length_map]; omega) (by rw [List.length_map]; omega)
    rw [if_pos rfl, List.length_map, (choiceAt hs b1 b2 (by omega)).1, Option.bind_some, implSetAt hs e2 (by omega), Option.bind_some, e3, e1]
    simp only [if_true]
    rw [hx]
    simp only [Option.bind_some, if_true]
    exact hj
  · rw [if_neg (by decide)]
    exact hj
theorem j3_ok {x1 : List Int} (h : RD x1 0) {x15 x16 x17 : Int} {x18 : List Int} {x19 : Bool} {x22 : Int} (hC : CH x15 x16 x17 x18 x19 x22) {x26 : Int} {x27 : List Int} {x28 : Int} {x29 : Bool} {x32 : Int} (hR : RC x26 x27 x28 x29 x32) {k : Nat} (hk : 1007 < k) : laws_FnOrdersChange.j3 k x1 x15 x16 x17 x18 x19 x22 x26 x27 x28 x29 x32 false = some true := by
  obtain ⟨k, rfl⟩ : ∃ m, k = m + 1 := ⟨k - 1, by omega⟩
  have hj := j4_ok h hR (k := k) (by omega)
  rw [laws_FnOrdersChange.j3, if_neg (by decide)]
  rcases hC with ⟨rfl, s, c, r, rfl, rfl, rfl, hs, hc, hr, rfl, rfl⟩ | rfl
  · have hb := C_small c hs.2
    have ew : Aside0 (wrap64 ((r : Int) + 1) = ((r + 1 : Nat) : Int)) := ⟨by rw [w64 (by omega) (by omega)]; omega⟩
    have ec : Aside0 (wrap64 ((c : Int) - 1) = (c : Int) - 1) := ⟨w64 (by omega) (by omega)⟩
    have et : Aside0 (Int.tmod ((r + 1 : Nat) : Int) (M.C s c : Int) = (((r + 1) % M.C s c : Nat) : Int)) := ⟨(Int.ofNat_tmod _ _).symm⟩
    have hn : (r + 1) % M.C s c < M.C s c := Nat.mod_lt _ (by omega)
    have hl1 := M.chr_length hr
    have hl2 := M.chr_length hn
    have h1 := (rankOfChoice (k := k) hs (ch_asc (s := s) (c := c) (r := r)) (by omega)).1
    rw [List.reverse_reverse, M.rk_chr hr, ← chL_nat] at h1
    have hrise := xRises (ns := (M.chr s c r).reverse) (k := k) (by rw [List.length_reverse]; omega) ch_asc.1 (by rw [List.length_reverse]; omega)
    rw [← chL_nat] at hrise
    have hlen : (chL s c r).length = c := by rw [chL_nat, List.length_map, List.length_reverse, hl1]
    rw [if_pos rfl, h1, Option.bind_some, if_neg (by omega), ew.out, et.out, (choiceAt hs hc hn (by omega)).1, Option.bind_some]
    simp only [if_true, hlen]
    rw [hrise]
    simp only [Option.bind_some, if_true]
    by_cases q : (M.C s c : Int) > 1
    · obtain ⟨g1, g2⟩ := ch_next hr (by omega)
      rw [if_pos q, chL_nat, chL_nat, xCommon (by rw [List.length_reverse]; omega) (by rw [List.length_reverse]; omega) (by rw [List.length_reverse, List.length_reverse]; omega), com_rev, g2, Option.bind_some, ec.out, if_pos (by omega)]
      exact hj
    · rw [if_neg q]
      exact hj
  · rw [if_neg (by decide)]
    exact hj
theorem j2_ok {x1 : List Int} (h : RD x1 0) {k : Nat} (hk : 3000 < k) : laws_FnOrdersChange.j2 k x1 = some true := by
  obtain ⟨k, rfl⟩ : ∃ m, k = m + 1 := ⟨k - 1, by omega⟩
  obtain ⟨n, c, t, d1⟩ := dChoiceAt h
  obtain ⟨m, l, hl, d2⟩ := dRankOfChoice h
  obtain ⟨L, one, all, three, HC, hL, v1, g1, g2, g3⟩ := choiceBoth n c t
  obtain ⟨p, w, b, HR, v2⟩ := rankBoth m l (by omega)
  have d1 := d1 k (by omega)
  have d2 := d2 k (by omega)
  have v1 := v1 k (by omega)
  have v2 := v2 k (by omega)
  have s1 := xSame_self (l := L) (k := k) (by omega) (by omega)
  have hj := j3_ok h HC HR (k := k) (by omega)
  rw [laws_FnOrdersChange.j2, d1, Option.bind_some]
  simp only
  rw [v1.1, Option.bind_some, v1.2.1, Option.bind_some, v1.2.2.1, Option.bind_some, v1.2.2.2, Option.bind_some, d2, Option.bind_some]
  simp only
  rw [v2.1, Option.bind_some, v2.2.1, Option.bind_some, v2.2.2.1, Option.bind_some, v2.2.2.2, Option.bind_some]
  simp only [bne_self_eq_false, Bool.false_eq_true, if_false, if_true, s1, Option.bind_some]
  cases three with
  | true =>
    rw [if_pos rfl]
    by_cases q : t ≥ 0
    · rw [if_pos q, ← g3 rfl q, bne_self_eq_false, if_neg (by decide)]
      exact hj
    · have e := g2 rfl q
      rw [if_neg q]
      subst e
      rw [bne_self_eq_false, if_neg (by decide)]
      exact hj
  | false =>
    have e := g1 rfl
    subst e
    rw [if_neg (by decide), bne_self_eq_false, if_neg (by decide)]
    exact hj
/-- a set and its rank -/
def ST (x5 x6 : Int) (x7 : List Int) : Prop := ∃ r n : Nat, x5 = r ∧ x6 = n ∧ (1 ≤ r ∧ r ≤ 20) ∧ n < 2 ^ r ∧ x7 = setL r n
theorem j1_ok {x1 : List Int} (h : RD x1 0) {x5 x6 : Int} {x7 : List Int} (hS : ST x5 x6 x7) {k : Nat} (hk : 3001 < k) : laws_FnOrdersChange.j1 k x1 x5 x6 x7 false = some true := by
  obtain ⟨k, rfl⟩ : ∃ m, k = m + 1 := ⟨k - 1, by omega⟩
  have hj := j2_ok h (k := k) (by omega)
  obtain ⟨r, n, rfl, rfl, hr, hn, rfl⟩ := hS
  have hp : 2 ^ r ≤ 2 ^ 20 := Nat.pow_le_pow_right (by decide) hr.2
  have ew : Aside0 (wrap64 ((n : Int) + 1) = ((n + 1 : Nat) : Int)) := ⟨by rw [w64 (by omega) (by omega)]; omega⟩
  rw [laws_FnOrdersChange.j1, if_neg (by decide), ew.out]
  by_cases q : n + 1 < 2 ^ r
  · have hx := set_next q
    have l1 := idxs_len r n
    have l2 := idxs_len r (n + 1)
    have hc : M.com (M.idxs 0 (M.st r n)) (M.idxs 0 (M.st r (n + 1))) ≤ 20 := by omega
    rw [implSetAt hr q (by omega), Option.bind_some]
    simp only [if_true]
    unfold setL
    rw [xCommon (by omega) (by omega) (by omega), Option.bind_some, List.length_map, List.length_map]
    generalize M.com (M.idxs 0 (M.st r n)) (M.idxs 0 (M.st r (n + 1))) = z at *
    generalize (M.idxs 0 (M.st r n)).length = a at *
    generalize (M.idxs 0 (M.st r (n + 1))).length = b at *
    rw [w64 (x := (a : Int) + (b : Int)) (by omega) (by omega), w64 (x := 2 * (z : Int)) (by omega) (by omega), w64 (by omega) (by omega), if_pos (by omega)]
    exact hj
  · have hno := (setAt_no (a0 := (r : Int)) (a1 := ((n + 1 : Nat) : Int)) (k := k) (by
      rintro ⟨r', n', e1, e2, _, h3⟩
      have e1 : r' = r := by omega
      have e2 : n' = n + 1 := by omega
      subst e1 e2
      exact q h3) (by omega)).1
    rw [hno, Option.bind_some]
    simp only [Bool.false_eq_true, if_false]
    exact hj
theorem j0_ok {x1 : List Int} (h : RD x1 0) {x5 x6 : Int} {x7 : List Int} {x8 : Bool} (hS : (x8 = true ∧ ST x5 x6 x7) ∨ x8 = false) {k : Nat} (hk : 3002 < k) : laws_FnOrdersChange.j0 k x1 x5 x6 x7 x8 false = some true := by
  obtain ⟨k, rfl⟩ : ∃ m, k = m + 1 := ⟨k - 1, by omega⟩
  rw [laws_FnOrdersChange.j0, if_neg (by decide)]
  rcases hS with ⟨rfl, hS⟩ | rfl
  · have hj := j1_ok h hS (k := k) (by omega)
    obtain ⟨r, n, rfl, rfl, hr, hn, rfl⟩ := hS
    have hl := idxs_len r n
    have h1 := (rankOfSet (k := k) hr (set_asc r n) (by omega)).1
    rw [set_rank hn] at h1
    have h2 := xRises (ns := M.idxs 0 (M.st r n)) (k := k) (by omega) (set_asc r n).1 (by omega)
    have e : (M.idxs 0 (M.st r n)).map Int.ofNat = setL r n := rfl
    rw [e] at h1 h2
    rw [if_pos rfl, h1, Option.bind_some]
    simp only [if_true]
    rw [h2, Option.bind_some]
    exact hj
  · rw [if_neg (by decide)]
    exact j2_ok h (by omega)
theorem bytes_ok {l : List Int} (h : ∀ x ∈ l, (Lit.int .u8 x).wf = true) : ∀ x ∈ l, 0 ≤ x ∧ x ≤ 255 := by
  intro x hx
  have := h x hx
  simpa [Lit.wf, IntKind.min, IntKind.max, IntKind.bits, IntKind.signed] using this
theorem big_val (l0 l1 : List Int) (h0 : l0.length ≤ 140737488351232) (h1 : l1.length ≤ 140737488351232) : ∃ t, laws_big.f l0 l1 = some t ∧ (t = false → l0.length ≤ 1048576 ∧ l1.length ≤ 1048576) := by
  unfold laws_big.f
  by_cases q : (l0.length : Int) > 1048576
  · rw [if_pos q]; exact ⟨true, rfl, fun h => by cases h⟩
  · rw [if_neg q, w64 (by omega) (by omega)]
    refine ⟨_, rfl, fun h => ?_⟩
    have := of_decide_eq_false h
    omega
theorem setBoth (a0 a1 : Int) : ∃ (L : List Int) (b : Bool), ((b = true ∧ ST a0 a1 L) ∨ b = false) ∧ L.length ≤ 20 ∧ ∀ k, 100 < k → impl_SetAt.f k a0 a1 = some (L, b) ∧ spec_SetAt.f k a0 a1 = some (L, b) := by
  by_cases h : ∃ r n : Nat, a0 = r ∧ a1 = n ∧ (1 ≤ r ∧ r ≤ 20) ∧ n < 2 ^ r
  · obtain ⟨r, n, rfl, rfl, hr, hn⟩ := h
    have := setL_length r n
    exact ⟨setL r n, true, .inl ⟨rfl, r, n, rfl, rfl, hr, hn, rfl⟩, by omega, fun k hk => ⟨implSetAt hr hn (by omega), specSetAt hr hn (by omega)⟩⟩
  · exact ⟨[], false, .inr rfl, by simp, fun k hk => setAt_no h (by omega)⟩
theorem FnOrdersChange : laws_FnOrdersChange.Pure := by
  intro l0 l1 _ s0 b0 _ s1 b1
  obtain ⟨t, ht, hb⟩ := big_val l0 l1 (by omega) (by omega)
  obtain ⟨k, hk⟩ : ∃ k : Nat, k = 3010 := ⟨_, rfl⟩
  refine ⟨k, ?_⟩
  unfold laws_FnOrdersChange.f
  cases t with
  | true => rw [ht, Option.bind_some, if_pos rfl]
  | false =>
    have hl := hb rfl
    have h0 := RD.start (bytes_ok b0) hl.1
    have h1 := RD.start (bytes_ok b1) hl.2
    obtain ⟨x, y, d⟩ := dSetAt h0
    obtain ⟨L, b, HS, hL, v⟩ := setBoth x y
    have v := v k (by omega)
    have s1 := xSame_self (l := L) (k := k) (by omega) (by omega)
    rw [ht, Option.bind_some, if_neg (by decide), d, Option.bind_some]
    simp only
    rw [v.1, Option.bind_some, v.2, Option.bind_some]
    simp only [bne_self_eq_false, Bool.false_eq_true, if_false]
    rw [s1, Option.bind_some]
    exact j0_ok h1 HS (by omega)
end Go.Proofs.Ytcgilnmljflebaa.Pure
