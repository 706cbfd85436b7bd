/- What the printed draws give. -/
import Derived.Test.YtcgilnmljflebaaAx1
import Derived.Test.YtcgilnmljflebaaAx10
import Derived.Test.YtcgilnmljflebaaAx11
import Derived.Test.YtcgilnmljflebaaAx12
import Derived.Test.YtcgilnmljflebaaAx3
import Derived.Test.YtcgilnmljflebaaAx5
import Derived.Test.YtcgilnmljflebaaAx7
import Derived.Test.YtcgilnmljflebaaAx8
import Derived.Test.YtcgilnmljflebaaChoose
import Derived.Test.YtcgilnmljflebaaDigits
set_option linter.unusedVariables false
set_option linter.unusedSimpArgs false
namespace Go.Proofs.Ytcgilnmljflebaa.Pure
open Go.RowKit Go.Proofs.Ytcgilnmljflebaa.A Go.Proofs.YtcgilnmljflebaaW.PrintWords Go.Proofs.YtcgilnmljflebaaW.PrintLast Go.Proofs.YtcgilnmljflebaaW.PrintMore
theorem and255 {x : Int} (h0 : 0 ≤ x) (h1 : x ≤ 9223372036854775807) : Go.bits .and .u64 x 255 = x % 256 := by
  have := Go.bits_mask .u64 63 (by decide) (fun n h0 h1 => by rw [IntKind.wrap_u64]; omega) 8 (by decide) x h0 (by omega)
  simpa using this
theorem u64_le (x : Int) : 0 ≤ IntKind.u64.wrap x ∧ IntKind.u64.wrap x < 18446744073709551616 := by
  rw [IntKind.wrap_u64]; omega
theorem low_byte (x : Int) : 0 ≤ wrap64 (Go.bits .and .u64 (IntKind.u64.wrap x / 1099511627776) 255) ∧ wrap64 (Go.bits .and .u64 (IntKind.u64.wrap x / 1099511627776) 255) ≤ 255 := by
  have := u64_le x
  rw [and255 (by omega) (by omega), w64 (by omega) (by omega)]
  omega
/-- the bytes given, the place reached -/
def RD (l : List Int) (a : Int) : Prop := (∀ x ∈ l, 0 ≤ x ∧ x ≤ 255) ∧ l.length ≤ 1048576 ∧ 0 ≤ a
theorem RD.step {l : List Int} {a b : Int} (h : RD l a) (hb : a ≤ b) : RD l b := ⟨h.1, h.2.1, Int.le_trans h.2.2 hb⟩
theorem next_ok {l : List Int} {a : Int} (h : RD l a) (hA : a ≤ 1000000000000) (s : Int) : ∃ v s', spec_l1Cur_next.f l a s = some (v, a + 1, s') ∧ 0 ≤ v ∧ v ≤ 255 := by
  obtain ⟨hb, hl, h0⟩ := h
  have hw : wrap64 (a + 1) = a + 1 := w64 (by omega) (by omega)
  unfold spec_l1Cur_next.f
  rw [hw]
  by_cases q : a < (l.length : Int)
  · obtain ⟨n, rfl⟩ := Int.eq_ofNat_of_zero_le h0
    have hn : n < l.length := by omega
    have hr : rd l (n : Int) = l[n] := rd_nat (List.getElem?_eq_getElem hn)
    have hv := hb l[n] (List.getElem_mem hn)
    rw [if_pos q, if_pos (by omega), if_pos (by omega), hr, w64 (by omega) (by omega)]
    exact ⟨_, _, rfl, hv.1, hv.2⟩
  · rw [if_neg q]
    by_cases q2 : a + 1 ≤ (l.length : Int)
    · rw [if_pos q2]; exact ⟨_, _, rfl, by omega, by omega⟩
    · rw [if_neg q2]; exact ⟨_, _, rfl, (low_byte _).1, (low_byte _).2⟩
theorem pick_ok {l : List Int} {a : Int} (h : RD l a) (hA : a ≤ 100000000000) (s n : Int) (hn : n ≤ 1000000) : ∃ v a' s', spec_l1Cur_pick.f l a s n = some (v, a', s') ∧ 0 ≤ v ∧ (1 ≤ n → v < n) ∧ a ≤ a' ∧ a' ≤ a + 2 := by
  unfold spec_l1Cur_pick.f
  by_cases q : n ≤ 1
  · rw [if_pos q]; exact ⟨_, _, _, rfl, by omega, by omega, by omega, by omega⟩
  · rw [if_neg q]
    obtain ⟨v, s1, e1, b1, b2⟩ := next_ok h (by omega) s
    rw [e1, Option.bind_some]
    by_cases q2 : n > 200
    · obtain ⟨u, s2, e2, b3, b4⟩ := next_ok (h.step (b := a + 1) (by omega)) (by omega) s1
      rw [if_pos q2, e2, Option.bind_some, if_neg (by omega)]
      simp only
      rw [w64 (x := v * 256) (by omega) (by omega), w64 (by omega) (by omega), Int.tmod_eq_emod_of_nonneg (by omega)]
      exact ⟨_, _, _, rfl, Int.emod_nonneg _ (by omega), fun _ => Int.emod_lt_of_pos _ (by omega), by omega, by omega⟩
    · rw [if_neg q2, if_neg (by omega)]
      simp only
      rw [Int.tmod_eq_emod_of_nonneg (by omega)]
      exact ⟨_, _, _, rfl, Int.emod_nonneg _ (by omega), fun _ => Int.emod_lt_of_pos _ (by omega), by omega, by omega⟩
theorem among_ok {l : List Int} {a : Int} (h : RD l a) (hA : a ≤ 100000000000) (s : Int) (L : List Int) (h1 : 1 ≤ L.length) (h2 : L.length ≤ 200) : ∃ v a' s', spec_l1Cur_among.f l a s L = some (v, a', s') ∧ v ∈ L ∧ a ≤ a' ∧ a' ≤ a + 2 := by
  obtain ⟨v, a', s', e, b1, b2, b3, b4⟩ := pick_ok h hA s (L.length : Int) (by omega)
  obtain ⟨n, rfl⟩ := Int.eq_ofNat_of_zero_le b1
  have hn : n < L.length := by have := b2 (by omega); omega
  have hr : rd L (n : Int) = L[n] := rd_nat (List.getElem?_eq_getElem hn)
  unfold spec_l1Cur_among.f
  rw [e, Option.bind_some]
  simp only
  rw [if_pos (by omega), if_pos (by omega), hr]
  exact ⟨_, _, _, rfl, List.getElem_mem hn, b3, b4⟩
theorem one_ok {l : List Int} {a : Int} (h : RD l a) (hA : a ≤ 100000000000) (s n : Int) (hn : n ≤ 1000000) : ∃ v a' s', spec_l1Cur_one.f l a s n = some (v, a', s') ∧ a ≤ a' ∧ a' ≤ a + 2 := by
  obtain ⟨v, a', s', e, b1, b2, b3, b4⟩ := pick_ok h hA s n hn
  unfold spec_l1Cur_one.f
  rw [e, Option.bind_some]
  exact ⟨_, _, _, rfl, b3, b4⟩
theorem RD.start {l : List Int} (hb : ∀ x ∈ l, 0 ≤ x ∧ x ≤ 255) (hl : l.length ≤ 1048576) : RD l 0 := ⟨hb, hl, Int.le_refl _⟩
theorem pick_any {l : List Int} {a : Int} (h : RD l a) (hA : a ≤ 100000000000) (s n : Int) : ∃ v a' s', spec_l1Cur_pick.f l a s n = some (v, a', s') ∧ 0 ≤ v ∧ (1 ≤ n → v < n) ∧ a ≤ a' ∧ a' ≤ a + 2 := by
  unfold spec_l1Cur_pick.f
  by_cases q : n ≤ 1
  · rw [if_pos q]; exact ⟨_, _, _, rfl, by omega, by omega, by omega, by omega⟩
  · rw [if_neg q]
    obtain ⟨v, s1, e1, b1, b2⟩ := next_ok h (by omega) s
    rw [e1, Option.bind_some]
    by_cases q2 : n > 200
    · obtain ⟨u, s2, e2, b3, b4⟩ := next_ok (h.step (b := a + 1) (by omega)) (by omega) s1
      rw [if_pos q2, e2, Option.bind_some, if_neg (by omega)]
      simp only
      rw [w64 (x := v * 256) (by omega) (by omega), w64 (by omega) (by omega), Int.tmod_eq_emod_of_nonneg (by omega)]
      exact ⟨_, _, _, rfl, Int.emod_nonneg _ (by omega), fun _ => Int.emod_lt_of_pos _ (by omega), by omega, by omega⟩
    · rw [if_neg q2, if_neg (by omega)]
      simp only
      rw [Int.tmod_eq_emod_of_nonneg (by omega)]
      exact ⟨_, _, _, rfl, Int.emod_nonneg _ (by omega), fun _ => Int.emod_lt_of_pos _ (by omega), by omega, by omega⟩
theorem picked_l0 {l : List Int} {n : Nat} (hn : n ≤ 12) (d : Nat) : ∀ (i : Nat) (x5 : List Int) (a c : Int), i + d = n → RD l a → a + 2 * d ≤ 100000 → x5.length ≤ i → ∃ v z a' c', (∀ k, d < k → spec_l1Cur_picked.l0 k (n : Int) x5 (i : Int) l a c = some (v, z, a', c')) ∧ z.length ≤ 20 ∧ a ≤ a' ∧ a' ≤ a + 2 * d + 4 := by
  induction d with
  | zero =>
    intro i x5 a c hi h hA hx
    obtain ⟨u, a1, c1, e1, b1, b2, b3, b4⟩ := pick_any h (by omega) c 14
    by_cases q0 : u = 0
    · obtain ⟨v, a2, c2, e2, hv, g1, g2⟩ := among_ok (h.step b3) (by omega) c1 ([(-1), 0, 1, 20, 21, 4611686018427387904] : List Int) (by simp) (by simp)
      refine ⟨v, x5, a2, c2, fun k hk => ?_, by omega, by omega, by omega⟩
      obtain ⟨k, rfl⟩ : ∃ m, k = m + 1 := ⟨k - 1, by omega⟩
      rw [spec_l1Cur_picked.l0, if_neg (by omega), e1, Option.bind_some]
      simp only
      rw [if_pos q0, e2, Option.bind_some]
    · by_cases q1 : u = 1
      · obtain ⟨v, a2, c2, e2, hv, g1, g2⟩ := among_ok (h.step b3) (by omega) c1 ([(-1), 0, wrap64 ((n : Int) - 1), (n : Int), 4611686018427387904] : List Int) (by simp) (by simp)
        refine ⟨(n : Int), x5 ++ [v], a2, c2, fun k hk => ?_, by simp; omega, by omega, by omega⟩
        obtain ⟨k, rfl⟩ : ∃ m, k = m + 1 := ⟨k - 1, by omega⟩
        rw [spec_l1Cur_picked.l0, if_neg (by omega), e1, Option.bind_some]
        simp only
        rw [if_neg q0, if_pos q1, e2, Option.bind_some, if_pos (by omega)]
      · refine ⟨(n : Int), x5, a1, c1, fun k hk => ?_, by omega, by omega, by omega⟩
        obtain ⟨k, rfl⟩ : ∃ m, k = m + 1 := ⟨k - 1, by omega⟩
        rw [spec_l1Cur_picked.l0, if_neg (by omega), e1, Option.bind_some]
        simp only
        rw [if_neg q0, if_neg q1]
  | succ d ih =>
    intro i x5 a c hi h hA hx
    obtain ⟨y, a1, c1, e1, g1, g2⟩ := one_ok h (by omega) c 2 (by omega)
    have e : Aside0 (wrap64 ((i : Int) + 1) = ((i + 1 : Nat) : Int)) := ⟨by rw [w64 (by omega) (by omega)]; omega⟩
    cases y with
    | true =>
      obtain ⟨v, z, a2, c2, e2, g3, g4, g5⟩ := ih (i + 1) (x5 ++ [(i : Int)]) a1 c1 (by omega) (h.step g1) (by omega) (by simp; omega)
      refine ⟨v, z, a2, c2, fun k hk => ?_, g3, by omega, by omega⟩
      obtain ⟨k, rfl⟩ : ∃ m, k = m + 1 := ⟨k - 1, by omega⟩
      rw [spec_l1Cur_picked.l0, if_pos (by omega), e1, Option.bind_some]
      simp only
      rw [if_pos trivial, if_pos (by omega), e.out]
      exact e2 k (by omega)
    | false =>
      obtain ⟨v, z, a2, c2, e2, g3, g4, g5⟩ := ih (i + 1) x5 a1 c1 (by omega) (h.step g1) (by omega) (by omega)
      refine ⟨v, z, a2, c2, fun k hk => ?_, g3, by omega, by omega⟩
      obtain ⟨k, rfl⟩ : ∃ m, k = m + 1 := ⟨k - 1, by omega⟩
      rw [spec_l1Cur_picked.l0, if_pos (by omega), e1, Option.bind_some]
      simp only
      rw [if_neg (by decide), e.out]
      exact e2 k (by omega)
theorem picked_ok {l : List Int} {a : Int} (h : RD l a) (hA : a ≤ 1000) (c : Int) : ∃ v z a' c', (∀ k, 20 < k → spec_l1Cur_picked.f k l a c = some (v, z, a', c')) ∧ z.length ≤ 20 ∧ a ≤ a' ∧ a' ≤ a + 40 := by
  obtain ⟨u, a1, c1, e1, b1, b2, b3, b4⟩ := pick_any h (by omega) c 12
  obtain ⟨n, rfl⟩ := Int.eq_ofNat_of_zero_le b1
  have hn : n < 12 := by have := b2 (by omega); omega
  obtain ⟨v, z, a2, c2, e2, g1, g2, g3⟩ := picked_l0 (n := n + 1) (by omega) (n + 1) 0 [] a1 c1 (by omega) (h.step b3) (by omega) (by simp)
  refine ⟨v, z, a2, c2, fun k hk => ?_, g1, by omega, by omega⟩
  unfold spec_l1Cur_picked.f
  rw [e1, Option.bind_some]
  simp only
  rw [w64 (by omega) (by omega), show (1 + (n : Int)) = ((n + 1 : Nat) : Int) by omega]
  exact e2 k (by omega)
theorem dSetAt {l : List Int} (h : RD l 0) : ∃ x y, spec_DrawSetAt.f l = some (x, y) := by
  suffices hh : ∃ x y a' c', spec_DrawSetAt_c.f l 0 0 = some (x, y, a', c') by
    obtain ⟨x, y, a', c', e⟩ := hh
    refine ⟨x, y, ?_⟩
    unfold spec_DrawSetAt.f
    rw [e]; rfl
  unfold spec_DrawSetAt_c.f
  obtain ⟨b, a1, c1, e1, g1, g2⟩ := one_ok h (by omega) 0 10 (by omega)
  rw [e1, Option.bind_some]
  simp only
  cases b with
  | true =>
    obtain ⟨v, a2, c2, e2, _, g3, g4⟩ := among_ok (h.step g1) (by omega) c1 ([(-1), 0, 1, 20, 21] : List Int) (by simp) (by simp)
    obtain ⟨u, a3, c3, e3, _, g5, g6⟩ := among_ok ((h.step g1).step g3) (by omega) c2 ([(-1), 0, 1, 1048575, 1048576, 4611686018427387904] : List Int) (by simp) (by simp)
    rw [if_pos rfl, e2, Option.bind_some]
    simp only
    rw [e3, Option.bind_some]
    exact ⟨_, _, _, _, rfl⟩
  | false =>
    obtain ⟨v, a2, c2, e2, b1, b2, g3, g4⟩ := pick_any (h.step g1) (by omega) c1 10
    have hv : v < 10 := b2 (by omega)
    rw [if_neg (by decide), e2, Option.bind_some]
    simp only
    rw [w64 (x := 1 + v) (by omega) (by omega), if_pos (by omega)]
    obtain ⟨u, a3, c3, e3, _, _, g5, g6⟩ := pick_any ((h.step g1).step g3) (by omega) c2 (wrap64 ((shl .i64 1 (1 + v)) + 1))
    obtain ⟨t, a4, c4, e4, _, _, g7, g8⟩ := pick_any (((h.step g1).step g3).step g5) (by omega) c3 9
    rw [e3, Option.bind_some]
    simp only
    rw [e4, Option.bind_some]
    exact ⟨_, _, _, _, rfl⟩
theorem countTotal (a0 a1 : Int) : ∃ (n : Int) (b : Bool), ∀ k, 30 ≤ k → spec_CountChoices.f k a0 a1 = some (n, b) := by
  by_cases h : ∃ s c : Nat, a0 = s ∧ a1 = c ∧ (1 ≤ s ∧ s ≤ 20) ∧ c ≤ s
  · obtain ⟨s, c, rfl, rfl, hs, hc⟩ := h
    exact ⟨_, true, fun k hk => (countChoices_yes hs hc hk).2⟩
  · exact ⟨0, false, fun k hk => (countChoices_no h).2⟩
theorem dch_j0 {l : List Int} {a : Int} (h : RD l a) (hA : a ≤ 10000) (c : Int) (x6 : Int) (x7 : List Int) (x8 : Int) (b : Bool) : ∃ x y z a' c', ∀ k, 0 < k → spec_DrawChoiceAt_c.j0 k x6 x7 x8 b l a c = some (x, y, z, a', c') := by
  cases b with
  | true =>
    obtain ⟨v, a2, c2, e2, _, _, g3, g4⟩ := pick_any h (by omega) c x8
    refine ⟨x6, (x7.length : Int), v, a2, c2, fun k hk => ?_⟩
    obtain ⟨k, rfl⟩ : ∃ m, k = m + 1 := ⟨k - 1, by omega⟩
    rw [spec_DrawChoiceAt_c.j0, if_pos rfl, e2, Option.bind_some]
  | false =>
    obtain ⟨v, a2, c2, e2, _, _, g3, g4⟩ := pick_any h (by omega) c 6
    obtain ⟨u, a3, c3, e3, _, _, g5, g6⟩ := pick_any (h.step g3) (by omega) c2 9
    obtain ⟨t, a4, c4, e4, _, g7, g8⟩ := among_ok ((h.step g3).step g5) (by omega) c3 ([(-1), 0, 1, 5, 20, 4611686018427387904] : List Int) (by simp) (by simp)
    refine ⟨x6, wrap64 (v - (wrap64 (Int.tdiv u 8))), t, a4, c4, fun k hk => ?_⟩
    obtain ⟨k, rfl⟩ : ∃ m, k = m + 1 := ⟨k - 1, by omega⟩
    rw [spec_DrawChoiceAt_c.j0, if_neg (by decide), e2, Option.bind_some]
    simp only
    rw [e3, Option.bind_some]
    simp only
    rw [e4, Option.bind_some]
theorem dChoiceAt {l : List Int} (h : RD l 0) : ∃ x y z, ∀ k, 100 < k → spec_DrawChoiceAt.f k l = some (x, y, z) := by
  obtain ⟨v, z, a1, c1, e1, g1, g2, g3⟩ := picked_ok h (by omega) 0
  obtain ⟨n, b, hc⟩ := countTotal v (z.length : Int)
  suffices hh : ∃ x y t a' c', ∀ k, 100 < k → spec_DrawChoiceAt_c.f k l 0 0 = some (x, y, t, a', c') by
    obtain ⟨x, y, t, a', c', e⟩ := hh
    refine ⟨x, y, t, fun k hk => ?_⟩
    unfold spec_DrawChoiceAt.f
    rw [e k hk]; rfl
  cases b with
  | true =>
    obtain ⟨y, a2, c2, e2, g4, g5⟩ := one_ok (h.step g2) (by omega) c1 8 (by omega)
    obtain ⟨x, y', t, a3, c3, e3⟩ := dch_j0 ((h.step g2).step g4) (by omega) c2 v z n (!y)
    refine ⟨x, y', t, a3, c3, fun k hk => ?_⟩
    unfold spec_DrawChoiceAt_c.f
    rw [e1 k (by omega), Option.bind_some]
    simp only
    rw [hc k (by omega), Option.bind_some]
    simp only
    rw [if_pos trivial, e2, Option.bind_some]
    exact e3 k (by omega)
  | false =>
    obtain ⟨x, y', t, a3, c3, e3⟩ := dch_j0 (h.step g2) (by omega) c1 v z n false
    refine ⟨x, y', t, a3, c3, fun k hk => ?_⟩
    unfold spec_DrawChoiceAt_c.f
    rw [e1 k (by omega), Option.bind_some]
    simp only
    rw [hc k (by omega), Option.bind_some]
    simp only
    rw [if_neg (by decide)]
    exact e3 k (by omega)
theorem dRankOfChoice {l : List Int} (h : RD l 0) : ∃ x z, z.length ≤ 20 ∧ ∀ k, 100 < k → spec_DrawRankOfChoice.f k l = some (x, z) := by
  obtain ⟨v, z, a1, c1, e1, g1, g2, g3⟩ := picked_ok h (by omega) 0
  refine ⟨v, z, g1, fun k hk => ?_⟩
  unfold spec_DrawRankOfChoice.f spec_DrawRankOfSet.f spec_DrawRankOfSet_c.f
  rw [e1 k (by omega)]
  rfl
theorem dSwappedAt {l : List Int} (h : RD l 0) : ∃ x y, ∀ k, 100 < k → spec_DrawSwappedAt.f k l = some (x, y) := by
  suffices hh : ∃ x y a' c', ∀ k, 100 < k → spec_DrawSwappedAt_c.f k l 0 0 = some (x, y, a', c') by
    obtain ⟨x, y, a', c', e⟩ := hh
    refine ⟨x, y, fun k hk => ?_⟩
    unfold spec_DrawSwappedAt.f
    rw [e k hk]; rfl
  obtain ⟨b, a1, c1, e1, g1, g2⟩ := one_ok h (by omega) 0 10 (by omega)
  cases b with
  | true =>
    obtain ⟨v, a2, c2, e2, _, g3, g4⟩ := among_ok (h.step g1) (by omega) c1 ([(-1), 0, 1, 10, 11] : List Int) (by simp) (by simp)
    obtain ⟨u, a3, c3, e3, _, g5, g6⟩ := among_ok ((h.step g1).step g3) (by omega) c2 ([(-1), 0, 3628799, 3628800, 4611686018427387904] : List Int) (by simp) (by simp)
    refine ⟨v, u, a3, c3, fun k hk => ?_⟩
    unfold spec_DrawSwappedAt_c.f
    rw [e1, Option.bind_some]
    simp only
    rw [if_pos trivial, e2, Option.bind_some]
    simp only
    rw [e3, Option.bind_some]
  | false =>
    obtain ⟨v, a2, c2, e2, b1, b2, g3, g4⟩ := pick_any (h.step g1) (by omega) c1 6
    obtain ⟨n, rfl⟩ := Int.eq_ofNat_of_zero_le b1
    have hn : n < 6 := by have := b2 (by omega); omega
    obtain ⟨u, a3, c3, e3, _, _, g5, g6⟩ := pick_any ((h.step g1).step g3) (by omega) c2 (wrap64 ((M.fact (n + 1) : Int) + 1))
    obtain ⟨t, a4, c4, e4, _, _, g7, g8⟩ := pick_any (((h.step g1).step g3).step g5) (by omega) c3 9
    refine ⟨((n + 1 : Nat) : Int), wrap64 (u - (wrap64 (Int.tdiv t 8))), a4, c4, fun k hk => ?_⟩
    unfold spec_DrawSwappedAt_c.f
    rw [e1, Option.bind_some]
    simp only
    rw [if_neg (by decide), e2, Option.bind_some]
    simp only
    rw [w64 (x := 1 + (n : Int)) (by omega) (by omega), show (1 + (n : Int)) = ((n + 1 : Nat) : Int) by omega, lists (by omega) (by omega), Option.bind_some, e3, Option.bind_some]
    simp only
    rw [e4, Option.bind_some]
theorem drs_j0 {l : List Int} {a : Int} (h : RD l a) (hA : a ≤ 10000) (c : Int) (x6 : List Int) (hx : x6.length ≤ 10) (b : Bool) : ∃ z a' c', z.length ≤ 20 ∧ ∀ k, 0 < k → spec_DrawRankOfSwapped_c.j0 k x6 b l a c = some (z, a', c') := by
  cases b with
  | true =>
    obtain ⟨t, a4, c4, e4, _, g7, g8⟩ := among_ok h (by omega) c ([(-1), 0, 1, 2, 4611686018427387904] : List Int) (by simp) (by simp)
    refine ⟨x6 ++ [t], a4, c4, by simp; omega, fun k hk => ?_⟩
    obtain ⟨k, rfl⟩ : ∃ m, k = m + 1 := ⟨k - 1, by omega⟩
    rw [spec_DrawRankOfSwapped_c.j0, if_pos rfl]
    unfold spec_l1Own.f
    simp only [Option.bind_some]
    rw [if_pos (by simp; omega), Option.bind_some, e4, Option.bind_some, if_pos (by simp; omega)]
    rfl
  | false =>
    refine ⟨x6, a, c, by omega, fun k hk => ?_⟩
    obtain ⟨k, rfl⟩ : ∃ m, k = m + 1 := ⟨k - 1, by omega⟩
    rw [spec_DrawRankOfSwapped_c.j0, if_neg (by decide)]
theorem swappedTotal (a0 a1 : Int) : ∃ (L : List Int) (b : Bool), L.length ≤ 10 ∧ ∀ k, 50 < k → spec_SwappedAt.f k a0 a1 = some (L, b) := by
  by_cases h : SwO a0 a1
  · obtain ⟨s, r, rfl, rfl, h1, h2, h3⟩ := h
    exact ⟨_, true, by rw [List.length_map, M.sw_length]; exact h2, fun k hk => (swappedAt_yes h1 h2 h3 hk).2⟩
  · exact ⟨[], false, by simp, fun k hk => (swappedAt_no h hk).2⟩
theorem dRankOfSwapped {l : List Int} (h : RD l 0) : ∃ z, z.length ≤ 20 ∧ ∀ k, 100 < k → spec_DrawRankOfSwapped.f k l = some z := by
  obtain ⟨x, y, e0⟩ := dSwappedAt h
  obtain ⟨L, b, hL, hS⟩ := swappedTotal x y
  suffices hh : ∃ z a' c', z.length ≤ 20 ∧ ∀ k, 100 < k → spec_DrawRankOfSwapped_c.f k l 0 0 l = some (z, a', c') by
    obtain ⟨z, a', c', hz, e⟩ := hh
    refine ⟨z, hz, fun k hk => ?_⟩
    unfold spec_DrawRankOfSwapped.f
    rw [e k hk]; rfl
  cases b with
  | true =>
    obtain ⟨w, a1, c1, e1, g1, g2⟩ := one_ok h (by omega) 0 10 (by omega)
    obtain ⟨z, a2, c2, hz, e2⟩ := drs_j0 (h.step g1) (by omega) c1 L hL w
    refine ⟨z, a2, c2, hz, fun k hk => ?_⟩
    unfold spec_DrawRankOfSwapped_c.f
    rw [e0 k hk, Option.bind_some]
    simp only
    rw [hS k (by omega), Option.bind_some]
    simp only
    rw [if_pos trivial, e1, Option.bind_some]
    exact e2 k (by omega)
  | false =>
    obtain ⟨z, a2, c2, hz, e2⟩ := drs_j0 h (by omega) 0 L hL true
    refine ⟨z, a2, c2, hz, fun k hk => ?_⟩
    unfold spec_DrawRankOfSwapped_c.f
    rw [e0 k hk, Option.bind_some]
    simp only
    rw [hS k (by omega), Option.bind_some]
    simp only
    rw [if_neg (by decide)]
    exact e2 k (by omega)
theorem limits_l1 {l : List Int} (d : Nat) : ∀ (x3 : List Int) (a c : Int), x3.length + d = 9 → RD l a → a + 2 * d ≤ 10000 → ∃ z a' c', (∀ k, d < k → spec_l1Cur_limits.l1 k x3 l a c = some (z, a', c')) ∧ z.length ≤ 9 ∧ a ≤ a' ∧ a' ≤ a + 2 * d + 2 := by
  induction d with
  | zero =>
    intro x3 a c hx h hA
    obtain ⟨v, a1, c1, e1, b1, b2, g1, g2⟩ := pick_any h (by omega) c 2
    have hv := b2 (by omega)
    refine ⟨x3, a1, c1, fun k hk => ?_, by omega, by omega, by omega⟩
    obtain ⟨k, rfl⟩ : ∃ m, k = m + 1 := ⟨k - 1, by omega⟩
    rw [spec_l1Cur_limits.l1, e1, Option.bind_some]
    simp only
    rw [w64 (x := 8 + v) (by omega) (by omega), if_neg (by omega)]
  | succ d ih =>
    intro x3 a c hx h hA
    obtain ⟨v, a1, c1, e1, b1, b2, g1, g2⟩ := pick_any h (by omega) c 2
    have hv := b2 (by omega)
    by_cases q : (x3.length : Int) < 8 + v
    · obtain ⟨z, a2, c2, e2, g3, g4, g5⟩ := ih (x3 ++ [20]) a1 c1 (by simp; omega) (h.step g1) (by omega)
      refine ⟨z, a2, c2, fun k hk => ?_, g3, by omega, by omega⟩
      obtain ⟨k, rfl⟩ : ∃ m, k = m + 1 := ⟨k - 1, by omega⟩
      rw [spec_l1Cur_limits.l1, e1, Option.bind_some]
      simp only
      rw [w64 (x := 8 + v) (by omega) (by omega), if_pos q, if_pos (by omega)]
      exact e2 k (by omega)
    · refine ⟨x3, a1, c1, fun k hk => ?_, by omega, by omega, by omega⟩
      obtain ⟨k, rfl⟩ : ∃ m, k = m + 1 := ⟨k - 1, by omega⟩
      rw [spec_l1Cur_limits.l1, e1, Option.bind_some]
      simp only
      rw [w64 (x := 8 + v) (by omega) (by omega), if_neg q]
theorem limits_l0 {l : List Int} (d : Nat) : ∀ (x3 : List Int) (a c : Int), x3.length + d ≤ 4 → 1 ≤ x3.length + d → RD l a → a + 2 * d ≤ 5000 → ∃ z a' c', (∀ k, d + 12 < k → spec_l1Cur_limits.l0 k x3 (d : Int) l a c = some (z, a', c')) ∧ z.length ≤ 9 ∧ a ≤ a' ∧ a' ≤ a + 2 * d + 40 := by
  induction d with
  | zero =>
    intro x3 a c hx h1 h hA
    obtain ⟨u, a1, c1, e1, b1, b2, g1, g2⟩ := pick_any h (by omega) c 14
    have fin : ∀ k, 12 < k → spec_l1Cur_limits.l0 k x3 ((0 : Nat) : Int) l a c = (if u = 0 then ((spec_l1Cur_among.f l a1 c1 (([(-1), 0, 20, 21] : List Int))).bind fun bt422 => (if 0 < (x3.length : Int) then (some ((x3.set (0 : Int).toNat bt422.1), bt422.2.1, bt422.2.2)) else (none))) else (if u = 1 then (spec_l1Cur_limits.l1 (k - 1) x3 l a1 c1) else (if u = 2 then (some (([] : List Int), a1, c1)) else (some (x3, a1, c1))))) := by
      intro k hk
      obtain ⟨k, rfl⟩ : ∃ m, k = m + 1 := ⟨k - 1, by omega⟩
      rw [spec_l1Cur_limits.l0, if_neg (by omega), e1, Option.bind_some, Nat.add_sub_cancel]
    by_cases q0 : u = 0
    · obtain ⟨t, a2, c2, e2, _, g3, g4⟩ := among_ok (h.step g1) (by omega) c1 ([(-1), 0, 20, 21] : List Int) (by simp) (by simp)
      refine ⟨x3.set (0 : Int).toNat t, a2, c2, fun k hk => ?_, by simp; omega, by omega, by omega⟩
      rw [fin k (by omega), if_pos q0, e2, Option.bind_some, if_pos (by omega)]
    · by_cases q1 : u = 1
      · obtain ⟨z, a2, c2, e2, g3, g4, g5⟩ := limits_l1 (9 - x3.length) x3 a1 c1 (by omega) (h.step g1) (by omega)
        refine ⟨z, a2, c2, fun k hk => ?_, g3, by omega, by omega⟩
        rw [fin k (by omega), if_neg q0, if_pos q1]
        exact e2 (k - 1) (by omega)
      · by_cases q2 : u = 2
        · refine ⟨[], a1, c1, fun k hk => ?_, by simp, by omega, by omega⟩
          rw [fin k (by omega), if_neg q0, if_neg q1, if_pos q2]
        · refine ⟨x3, a1, c1, fun k hk => ?_, by omega, by omega, by omega⟩
          rw [fin k (by omega), if_neg q0, if_neg q1, if_neg q2]
  | succ d ih =>
    intro x3 a c hx h1 h hA
    obtain ⟨v, a1, c1, e1, b1, b2, g1, g2⟩ := pick_any h (by omega) c 5
    obtain ⟨z, a2, c2, e2, g3, g4, g5⟩ := ih (x3 ++ [wrap64 (1 + v)]) a1 c1 (by simp; omega) (by rw [List.length_append, List.length_singleton]; omega) (h.step g1) (by omega)
    have e : Aside0 (wrap64 (((d + 1 : Nat) : Int) - 1) = (d : Int)) := ⟨by rw [w64 (by omega) (by omega)]; omega⟩
    refine ⟨z, a2, c2, fun k hk => ?_, g3, by omega, by omega⟩
    obtain ⟨k, rfl⟩ : ∃ m, k = m + 1 := ⟨k - 1, by omega⟩
    rw [spec_l1Cur_limits.l0, if_pos (by omega), e1, Option.bind_some]
    simp only
    rw [if_pos (by omega), e.out]
    exact e2 k (by omega)
theorem limits_ok {l : List Int} {a : Int} (h : RD l a) (hA : a ≤ 1000) (c : Int) : ∃ z a' c', (∀ k, 40 < k → spec_l1Cur_limits.f k l a c = some (z, a', c')) ∧ z.length ≤ 9 ∧ a ≤ a' ∧ a' ≤ a + 60 := by
  obtain ⟨u, a1, c1, e1, b1, b2, b3, b4⟩ := pick_any h (by omega) c 4
  obtain ⟨n, rfl⟩ := Int.eq_ofNat_of_zero_le b1
  have hn : n < 4 := by have := b2 (by omega); omega
  obtain ⟨z, a2, c2, e2, g1, g2, g3⟩ := limits_l0 (n + 1) [] a1 c1 (by simp; omega) (by simp) (h.step b3) (by omega)
  refine ⟨z, a2, c2, fun k hk => ?_, g1, by omega, by omega⟩
  unfold spec_l1Cur_limits.f
  rw [e1, Option.bind_some]
  simp only
  rw [w64 (by omega) (by omega), show (1 + (n : Int)) = ((n + 1 : Nat) : Int) by omega]
  exact e2 k (by omega)
theorem dmx_j0 {l : List Int} {a : Int} (h : RD l a) (hA : a ≤ 10000) (c : Int) (x5 : List Int) (b : Bool) (hb : b = true → lim x5 = true) : ∃ y a' c', ∀ k, 20 < k → spec_DrawMixedAt_c.j0 k x5 b l a c = some (x5, y, a', c') := by
  cases b with
  | true =>
    obtain ⟨ns, rfl, hn, h0, h1⟩ := lim_nats (hb rfl)
    obtain ⟨v, a2, c2, e2, _, _, g3, g4⟩ := pick_any h (by omega) c 250
    have hp := M.prod_pos h0
    refine ⟨Int.tmod (wrap64 (v * 101)) (M.prod ns : Int), a2, c2, fun k hk => ?_⟩
    obtain ⟨k, rfl⟩ : ∃ m, k = m + 1 := ⟨k - 1, by omega⟩
    have p1 := (prod_drop h0 h1 hn.2 0 k (by omega)).1
    rw [List.drop_zero] at p1
    rw [List.drop_zero] at p1
    rw [spec_DrawMixedAt_c.j0, if_pos rfl, e2, Option.bind_some, p1, Option.bind_some, if_neg (by omega)]
  | false =>
    obtain ⟨t, a4, c4, e4, _, g7, g8⟩ := among_ok h (by omega) c ([(-1), 0, 1, 4611686018427387904] : List Int) (by simp) (by simp)
    refine ⟨t, a4, c4, fun k hk => ?_⟩
    obtain ⟨k, rfl⟩ : ∃ m, k = m + 1 := ⟨k - 1, by omega⟩
    rw [spec_DrawMixedAt_c.j0, if_neg (by decide), e4, Option.bind_some]
theorem dMixedAt {l : List Int} (h : RD l 0) : ∃ z y, z.length ≤ 20 ∧ ∀ k, 100 < k → spec_DrawMixedAt.f k l = some (z, y) := by
  obtain ⟨z, a1, c1, e1, g1, g2, g3⟩ := limits_ok h (by omega) 0
  suffices hh : ∃ y a' c', ∀ k, 100 < k → spec_DrawMixedAt_c.f k l 0 0 = some (z, y, a', c') by
    obtain ⟨y, a', c', e⟩ := hh
    refine ⟨z, y, by omega, fun k hk => ?_⟩
    unfold spec_DrawMixedAt.f
    rw [e k hk]; rfl
  cases hq : lim z with
  | true =>
    obtain ⟨w, a2, c2, e2, g4, g5⟩ := one_ok (h.step g2) (by omega) c1 8 (by omega)
    obtain ⟨y, a3, c3, e3⟩ := dmx_j0 ((h.step g2).step g4) (by omega) c2 z (!w) (fun _ => hq)
    refine ⟨y, a3, c3, fun k hk => ?_⟩
    unfold spec_DrawMixedAt_c.f
    rw [e1 k (by omega), Option.bind_some]
    simp only
    rw [nuLimits (by omega) (by omega), hq, Option.bind_some, if_pos rfl, e2, Option.bind_some]
    exact e3 k (by omega)
  | false =>
    obtain ⟨y, a3, c3, e3⟩ := dmx_j0 (h.step g2) (by omega) c1 z false (by simp)
    refine ⟨y, a3, c3, fun k hk => ?_⟩
    unfold spec_DrawMixedAt_c.f
    rw [e1 k (by omega), Option.bind_some]
    simp only
    rw [nuLimits (by omega) (by omega), hq, Option.bind_some, if_neg (by decide)]
    exact e3 k (by omega)
theorem drm_j1 {l : List Int} {a : Int} (h : RD l a) (hA : a ≤ 10000) (c : Int) (x5 x6 : List Int) (hx : x6.length ≤ 15) : ∃ y a' c', y.length ≤ 15 ∧ ∀ k, 0 < k → spec_DrawRankOfMixed_c.j1 k x5 x6 l a c = some (x5, y, a', c') := by
  obtain ⟨w, a1, c1, e1, g1, g2⟩ := one_ok h (by omega) c 12 (by omega)
  cases w with
  | true =>
    by_cases q : (x6.length : Int) > 0
    · obtain ⟨t, a4, c4, e4, _, g7, g8⟩ := among_ok (h.step g1) (by omega) c1 ([(-1), 5, 20, 4611686018427387904] : List Int) (by simp) (by simp)
      refine ⟨x6.set (0 : Int).toNat t, a4, c4, by simp; omega, fun k hk => ?_⟩
      obtain ⟨k, rfl⟩ : ∃ m, k = m + 1 := ⟨k - 1, by omega⟩
      rw [spec_DrawRankOfMixed_c.j1, e1, Option.bind_some]
      simp only
      rw [if_pos trivial, if_pos q, e4, Option.bind_some, if_pos (by omega)]
    · refine ⟨x6, a1, c1, hx, fun k hk => ?_⟩
      obtain ⟨k, rfl⟩ : ∃ m, k = m + 1 := ⟨k - 1, by omega⟩
      rw [spec_DrawRankOfMixed_c.j1, e1, Option.bind_some]
      simp only
      rw [if_pos trivial, if_neg q]
  | false =>
    refine ⟨x6, a1, c1, hx, fun k hk => ?_⟩
    obtain ⟨k, rfl⟩ : ∃ m, k = m + 1 := ⟨k - 1, by omega⟩
    rw [spec_DrawRankOfMixed_c.j1, e1, Option.bind_some]
    simp only
    rw [if_neg (by decide)]
theorem drm_l0 {l : List Int} {x14 : List Int} (hx : x14.length ≤ 9) (d : Nat) : ∀ (i : Nat) (x6 : List Int) (a c : Int), i + d = x14.length → x6.length ≤ i → RD l a → a + 2 * d ≤ 9000 → ∃ y a' c', y.length ≤ 15 ∧ ∀ k, d + 2 < k → spec_DrawRankOfMixed_c.l0 k x14 x6 x14 (x14.length : Int) (i : Int) l a c = some (x14, y, a', c') := by
  induction d with
  | zero =>
    intro i x6 a c hi h6 h hA
    obtain ⟨w, a1, c1, e1, g1, g2⟩ := one_ok h (by omega) c 10 (by omega)
    cases w with
    | true =>
      obtain ⟨t, a4, c4, e4, _, g7, g8⟩ := among_ok (h.step g1) (by omega) c1 ([(-1), 0, 20] : List Int) (by simp) (by simp)
      obtain ⟨y, a5, c5, hy, e5⟩ := drm_j1 ((h.step g1).step g7) (by omega) c4 x14 (x6 ++ [t]) (by simp; omega)
      refine ⟨y, a5, c5, hy, fun k hk => ?_⟩
      obtain ⟨k, rfl⟩ : ∃ m, k = m + 1 := ⟨k - 1, by omega⟩
      rw [spec_DrawRankOfMixed_c.l0, if_neg (by omega), e1, Option.bind_some]
      simp only
      rw [if_pos trivial, e4, Option.bind_some, if_pos (by omega)]
      exact e5 k (by omega)
    | false =>
      obtain ⟨y, a5, c5, hy, e5⟩ := drm_j1 (h.step g1) (by omega) c1 x14 x6 (by omega)
      refine ⟨y, a5, c5, hy, fun k hk => ?_⟩
      obtain ⟨k, rfl⟩ : ∃ m, k = m + 1 := ⟨k - 1, by omega⟩
      rw [spec_DrawRankOfMixed_c.l0, if_neg (by omega), e1, Option.bind_some]
      simp only
      rw [if_neg (by decide)]
      exact e5 k (by omega)
  | succ d ih =>
    intro i x6 a c hi h6 h hA
    obtain ⟨m, hm⟩ : ∃ m, spec_l1Most.f 1 (rd x14 (i : Int)) = some m := by unfold spec_l1Most.f; split <;> exact ⟨_, rfl⟩
    obtain ⟨v, a1, c1, e1, _, _, g1, g2⟩ := pick_any h (by omega) c m
    obtain ⟨y, a5, c5, hy, e5⟩ := ih (i + 1) (x6 ++ [v]) a1 c1 (by omega) (by simp; omega) (h.step g1) (by omega)
    have e : Aside0 (wrap64 ((i : Int) + 1) = ((i + 1 : Nat) : Int)) := ⟨by rw [w64 (by omega) (by omega)]; omega⟩
    refine ⟨y, a5, c5, hy, fun k hk => ?_⟩
    obtain ⟨k, rfl⟩ : ∃ m, k = m + 1 := ⟨k - 1, by omega⟩
    rw [spec_DrawRankOfMixed_c.l0, if_pos (by omega), if_pos (by omega), if_pos (by omega), hm, Option.bind_some, e1, Option.bind_some, if_pos (by omega), e.out]
    exact e5 k (by omega)
theorem dRankOfMixed {l : List Int} (h : RD l 0) : ∃ z y, z.length ≤ 20 ∧ y.length ≤ 20 ∧ ∀ k, 100 < k → spec_DrawRankOfMixed.f k l = some (z, y) := by
  obtain ⟨z, a1, c1, e1, g1, g2, g3⟩ := limits_ok h (by omega) 0
  obtain ⟨y, a2, c2, hy, e2⟩ := drm_l0 g1 z.length 0 [] a1 c1 (by omega) (by simp) (h.step g2) (by omega)
  refine ⟨z, y, by omega, by omega, fun k hk => ?_⟩
  unfold spec_DrawRankOfMixed.f spec_DrawRankOfMixed_c.f
  have e3 : spec_DrawRankOfMixed_c.l0 k z [] z (z.length : Int) 0 l a1 c1 = some (z, y, a2, c2) := e2 k (by omega)
  rw [e1 k (by omega), Option.bind_some]
  simp only
  rw [e3]
  rfl
end Go.Proofs.Ytcgilnmljflebaa.Pure
