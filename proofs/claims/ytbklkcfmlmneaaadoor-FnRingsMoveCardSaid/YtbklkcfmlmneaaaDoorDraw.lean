/- What the draws of states and moves give. -/
import Derived.Test.YtbklkcfmlmneaaaDoorAx1
import Derived.Test.YtbklkcfmlmneaaaDoorAx4
import Derived.Test.YtbklkcfmlmneaaaDoorAx5
import Derived.Test.YtbklkcfmlmneaaaDoorAx6
import Derived.Test.YtbklkcfmlmneaaaDoorVals
set_option linter.unusedVariables false
set_option linter.unusedSimpArgs false
namespace Go.Proofs.YtbklkcfmlmneaaaDoor.Pure
open Go.RowKit Go.Proofs.YtbklkcfmlmneaaaDoor.A Go.Proofs.YtbklkcfmlmneaaaDoorW.PrintWords Go.Proofs.YtbklkcfmlmneaaaDoorW.PrintLast Go.Proofs.YtbklkcfmlmneaaaDoorW.PrintMore

/-! the reader of choices always answers -/
theorem and255 {x : Int} (h0 : 0 ≤ x) (h1 : x ≤ 9223372036854775807) : Go.bits .and .u64 x 255 = x % 256 := by
  have := Go.bits_mask .u64 63 (by decide) (fun n h0 h1 => by rw [IntKind.wrap_u64]; omega) 8 (by decide) x h0 (by omega)
  simpa using this
theorem u64_le (x : Int) : 0 ≤ IntKind.u64.wrap x ∧ IntKind.u64.wrap x < 18446744073709551616 := by
  rw [IntKind.wrap_u64]; omega
theorem low_byte (x : Int) : 0 ≤ wrap64 (Go.bits .and .u64 (IntKind.u64.wrap x / 1099511627776) 255) ∧ wrap64 (Go.bits .and .u64 (IntKind.u64.wrap x / 1099511627776) 255) ≤ 255 := by
  have := u64_le x
  rw [and255 (by omega) (by omega), w64 (by omega) (by omega)]
  omega
/-- the bytes given, the place reached -/
def RD (l : List Int) (a : Int) : Prop := (∀ x ∈ l, 0 ≤ x ∧ x ≤ 255) ∧ l.length ≤ 1048576 ∧ 0 ≤ a
theorem RD.step {l : List Int} {a b : Int} (h : RD l a) (hb : a ≤ b) : RD l b := ⟨h.1, h.2.1, Int.le_trans h.2.2 hb⟩
theorem next_ok {l : List Int} {a : Int} (h : RD l a) (hA : a ≤ 1000000000000) (s : Int) : ∃ v s', spec_l1Cur_next.f l a s = some (v, a + 1, s') ∧ 0 ≤ v ∧ v ≤ 255 := by
  obtain ⟨hb, hl, h0⟩ := h
  have hw : wrap64 (a + 1) = a + 1 := w64 (by omega) (by omega)
  unfold spec_l1Cur_next.f
  rw [hw]
  by_cases q : a < (l.length : Int)
  · obtain ⟨n, rfl⟩ := Int.eq_ofNat_of_zero_le h0
    have hn : n < l.length := by omega
    have hr : rd l (n : Int) = l[n] := rd_nat (List.getElem?_eq_getElem hn)
    have hv := hb l[n] (List.getElem_mem hn)
    rw [if_pos q, if_pos (by omega), if_pos (by omega), hr, w64 (by omega) (by omega)]
    exact ⟨_, _, rfl, hv.1, hv.2⟩
  · rw [if_neg q]
    by_cases q2 : a + 1 ≤ (l.length : Int)
    · rw [if_pos q2]; exact ⟨_, _, rfl, by omega, by omega⟩
    · rw [if_neg q2]; exact ⟨_, _, rfl, (low_byte _).1, (low_byte _).2⟩
theorem pick_ok {l : List Int} {a : Int} (h : RD l a) (hA : a ≤ 100000000000) (s n : Int) (hn : n ≤ 1000000) : ∃ v a' s', spec_l1Cur_pick.f l a s n = some (v, a', s') ∧ 0 ≤ v ∧ (1 ≤ n → v < n) ∧ a ≤ a' ∧ a' ≤ a + 2 := by
  unfold spec_l1Cur_pick.f
  by_cases q : n ≤ 1
  · rw [if_pos q]; exact ⟨_, _, _, rfl, by omega, by omega, by omega, by omega⟩
  · rw [if_neg q]
    obtain ⟨v, s1, e1, b1, b2⟩ := next_ok h (by omega) s
    rw [e1, Option.bind_some]
    by_cases q2 : n > 200
    · obtain ⟨u, s2, e2, b3, b4⟩ := next_ok (h.step (b := a + 1) (by omega)) (by omega) s1
      rw [if_pos q2, e2, Option.bind_some, if_neg (by omega)]
      simp only
      rw [w64 (x := v * 256) (by omega) (by omega), w64 (by omega) (by omega), Int.tmod_eq_emod_of_nonneg (by omega)]
      exact ⟨_, _, _, rfl, Int.emod_nonneg _ (by omega), fun _ => Int.emod_lt_of_pos _ (by omega), by omega, by omega⟩
    · rw [if_neg q2, if_neg (by omega)]
      simp only
      rw [Int.tmod_eq_emod_of_nonneg (by omega)]
      exact ⟨_, _, _, rfl, Int.emod_nonneg _ (by omega), fun _ => Int.emod_lt_of_pos _ (by omega), by omega, by omega⟩
theorem among_ok {l : List Int} {a : Int} (h : RD l a) (hA : a ≤ 100000000000) (s : Int) (L : List Int) (h1 : 1 ≤ L.length) (h2 : L.length ≤ 200) : ∃ v a' s', spec_l1Cur_among.f l a s L = some (v, a', s') ∧ v ∈ L ∧ a ≤ a' ∧ a' ≤ a + 2 := by
  obtain ⟨v, a', s', e, b1, b2, b3, b4⟩ := pick_ok h hA s (L.length : Int) (by omega)
  obtain ⟨n, rfl⟩ := Int.eq_ofNat_of_zero_le b1
  have hn : n < L.length := by have := b2 (by omega); omega
  have hr : rd L (n : Int) = L[n] := rd_nat (List.getElem?_eq_getElem hn)
  unfold spec_l1Cur_among.f
  rw [e, Option.bind_some]
  simp only
  rw [if_pos (by omega), if_pos (by omega), hr]
  exact ⟨_, _, _, rfl, List.getElem_mem hn, b3, b4⟩
theorem one_ok {l : List Int} {a : Int} (h : RD l a) (hA : a ≤ 100000000000) (s n : Int) (hn : n ≤ 1000000) : ∃ v a' s', spec_l1Cur_one.f l a s n = some (v, a', s') ∧ a ≤ a' ∧ a' ≤ a + 2 := by
  obtain ⟨v, a', s', e, b1, b2, b3, b4⟩ := pick_ok h hA s n hn
  unfold spec_l1Cur_one.f
  rw [e, Option.bind_some]
  exact ⟨_, _, _, rfl, b3, b4⟩

theorem of_ok {l : List Int} {a : Int} (h : RD l a) (hA : a ≤ 100000000000) (s : Int) (L : List ByteArray) (h1 : 1 ≤ L.length) (h2 : L.length ≤ 200) : ∃ v a' s', spec_l1Cur_of.f l a s L = some (v, a', s') ∧ v ∈ L ∧ a ≤ a' ∧ a' ≤ a + 2 := by
  obtain ⟨v, a', s', e, b1, b2, b3, b4⟩ := pick_ok h hA s (L.length : Int) (by omega)
  obtain ⟨n, rfl⟩ := Int.eq_ofNat_of_zero_le b1
  have hn : n < L.length := by have := b2 (by omega); omega
  have hr : rdOf ByteArray.empty L (n : Int) = L[n] := by unfold rdOf; rw [Int.toNat_natCast, List.getD, List.getElem?_eq_getElem hn]; rfl
  unfold spec_l1Cur_of.f
  rw [e, Option.bind_some]
  simp only
  rw [if_pos (by omega), if_pos (by omega), hr]
  exact ⟨_, _, _, rfl, List.getElem_mem hn, b3, b4⟩

/-! what the draws of states give -/
theorem RD.start {l : List Int} (hb : ∀ x ∈ l, 0 ≤ x ∧ x ≤ 255) (hl : l.length ≤ 1048576) : RD l 0 := ⟨hb, hl, Int.le_refl _⟩
def asc (s : ByteArray) : Prop := ∃ l : List UInt8, s = tx l ∧ ∀ c ∈ l, c.toNat < 128
theorem asc_app {s t : ByteArray} (hs : asc s) (ht : asc t) : asc (s ++ t) := by
  obtain ⟨a, rfl, ha⟩ := hs
  obtain ⟨b, rfl, hb⟩ := ht
  refine ⟨a ++ b, tx_app a b, fun c hc => ?_⟩
  rcases List.mem_append.1 hc with h | h
  · exact ha c h
  · exact hb c h
theorem asc_byte {s : ByteArray} (hs : asc s) {i : Nat} (h : i < s.size) : (s[i]'h).toNat < 128 := by
  obtain ⟨l, rfl, hl⟩ := hs
  have h' : i < l.length := by rwa [tx_size] at h
  have e := bt_at (tx l) (i : Int) (by simpa using h)
  rw [bt_tx, List.getD, List.getElem?_eq_getElem h'] at e
  simp only [Int.toNat_natCast, Option.getD_some] at e
  have := hl _ (List.getElem_mem h')
  omega
theorem sure_l0 {l : List Int} (n : Nat) : ∀ (s : ByteArray) (a c : Int), RD l a → a + 2 * n ≤ 1000000000 → s.size + n ≤ 1000 → asc s → n ≤ 100 → ∃ z a' c', (∀ k, n < k → spec_l1Cur_sureState.l0 k s (n : Int) l a c = some (z, a', c')) ∧ a ≤ a' ∧ a' ≤ a + 2 * n ∧ z.size ≤ s.size + n ∧ asc z := by
  induction n with
  | zero =>
    intro s a c h hA hs ha _
    refine ⟨s, a, c, fun k hk => ?_, by omega, by omega, by omega, ha⟩
    obtain ⟨k, rfl⟩ : ∃ m, k = m + 1 := ⟨k - 1, by omega⟩
    rw [spec_l1Cur_sureState.l0, if_neg (by omega)]
  | succ n ih =>
    intro s a c h hA hs ha hn
    obtain ⟨v, a1, c1, e, hv, g1, g2⟩ := of_ok h (by omega) c [(⟨#[48]⟩ : ByteArray), (⟨#[49]⟩ : ByteArray)] (by simp) (by simp)
    have hv1 : v.size = 1 ∧ asc v := by
      simp only [List.mem_cons, List.not_mem_nil, or_false] at hv
      rcases hv with rfl | rfl
      · exact ⟨rfl, [48], rfl, by simp⟩
      · exact ⟨rfl, [49], rfl, by simp⟩
    have hsz : (s ++ v).size = s.size + 1 := by rw [ByteArray.size_append, hv1.1]
    obtain ⟨z, a2, c2, e2, g3, g4, g5, g6⟩ := ih (s ++ v) a1 c1 (h.step g1) (by omega) (by omega) (asc_app ha hv1.2) (by omega)
    refine ⟨z, a2, c2, fun k hk => ?_, by omega, by omega, by omega, g6⟩
    obtain ⟨k, rfl⟩ : ∃ m, k = m + 1 := ⟨k - 1, by omega⟩
    rw [spec_l1Cur_sureState.l0, if_pos (by omega), e, Option.bind_some]
    simp only
    rw [if_pos (by omega), w64 (by omega) (by omega), show (((n + 1 : Nat) : Int) - 1) = (n : Int) by omega]
    exact e2 k (by omega)
theorem sure_ok {l : List Int} {a : Int} (h : RD l a) (hA : a ≤ 100000000) (c : Int) : ∃ z a' c', (∀ k, 20 < k → spec_l1Cur_sureState.f k l a c 8 = some (z, a', c')) ∧ a ≤ a' ∧ a' ≤ a + 30 ∧ z.size ≤ 20 ∧ asc z := by
  obtain ⟨v, a1, c1, e, b1, b2, b3, b4⟩ := pick_ok h (by omega) c 8 (by omega)
  obtain ⟨n, rfl⟩ := Int.eq_ofNat_of_zero_le b1
  have hn : n < 8 := by have := b2 (by omega); omega
  have hz : (⟨#[]⟩ : ByteArray).size = 0 := rfl
  obtain ⟨z, a2, c2, e2, g3, g4, g5, g6⟩ := sure_l0 (n + 1) (⟨#[]⟩ : ByteArray) a1 c1 (h.step b3) (by omega) (by omega) ⟨[], rfl, by simp⟩ (by omega)
  refine ⟨z, a2, c2, fun k hk => ?_, by omega, by omega, by omega, g6⟩
  unfold spec_l1Cur_sureState.f
  rw [e, Option.bind_some]
  simp only
  rw [w64 (by omega) (by omega), show (1 + (n : Int)) = ((n + 1 : Nat) : Int) by omega]
  exact e2 k (by omega)
theorem state_ok {l : List Int} {a : Int} (h : RD l a) (hA : a ≤ 10000000) (c : Int) : ∃ z a' c', (∀ k, 20 < k → spec_l1Cur_state.f k l a c = some (z, a', c')) ∧ a ≤ a' ∧ a' ≤ a + 40 ∧ z.size ≤ 30 ∧ asc z := by
  obtain ⟨y, a1, c1, e, g1, g2⟩ := one_ok h (by omega) c 12 (by omega)
  cases y with
  | true =>
    obtain ⟨v, a2, c2, e2, hv, g3, g4⟩ := of_ok (h.step g1) (by omega) c1 (([(⟨#[]⟩ : ByteArray), (⟨#[50]⟩ : ByteArray), (⟨#[48, 120]⟩ : ByteArray), (⟨#[49, 49, 49, 49, 49, 49, 49, 49, 49, 49, 49, 49, 49, 49, 49, 49, 49, 49, 49, 49, 49]⟩ : ByteArray), (⟨#[49, 49, 49, 49, 49, 49, 49, 49, 49, 49, 49, 49, 49, 49, 49, 49, 49, 49, 49, 49]⟩ : ByteArray), (⟨#[48, 48, 48, 48, 48, 48, 48, 48, 48, 48, 48, 48, 48, 48, 48, 48, 48, 48, 48, 49]⟩ : ByteArray)] : List ByteArray)) (by simp) (by simp)
    have hv1 : v.size ≤ 30 ∧ asc v := by
      simp only [List.mem_cons, List.not_mem_nil, or_false] at hv
      rcases hv with rfl | rfl | rfl | rfl | rfl | rfl
      · exact ⟨by decide, [], rfl, by simp⟩
      · exact ⟨by decide, [50], rfl, by simp⟩
      · exact ⟨by decide, [48, 120], rfl, by simp⟩
      · exact ⟨by decide, List.replicate 21 49, rfl, by simp⟩
      · exact ⟨by decide, List.replicate 20 49, rfl, by simp⟩
      · exact ⟨by decide, List.replicate 19 48 ++ [49], rfl, by simp⟩
    refine ⟨v, a2, c2, fun k hk => ?_, by omega, by omega, hv1.1, hv1.2⟩
    unfold spec_l1Cur_state.f
    rw [e, Option.bind_some]
    simp only
    rw [if_pos trivial, e2, Option.bind_some]
  | false =>
    obtain ⟨z, a2, c2, e2, g3, g4, g5, g6⟩ := sure_ok (h.step g1) (by omega) c1
    refine ⟨z, a2, c2, fun k hk => ?_, by omega, by omega, by omega, g6⟩
    unfold spec_l1Cur_state.f
    rw [e, Option.bind_some]
    simp only
    rw [if_neg (by decide), e2 k hk, Option.bind_some]

theorem drj1 {l : List Int} {a : Int} (h : RD l a) (hA : a ≤ 1000000) (c : Int) (x5 : List Int) (hx : x5.length ≤ 100) : ∃ z a' c', (∀ k, 0 < k → spec_l1Cur_moves.j1 k x5 l a c = some (z, a', c')) ∧ z.length ≤ x5.length + 1 := by
  obtain ⟨y, a1, c1, e, g1, g2⟩ := one_ok h (by omega) c 4 (by omega)
  cases y with
  | true =>
    obtain ⟨v, a2, c2, e2, hv, g3, g4⟩ := among_ok (h.step g1) (by omega) c1 ([0, 1, 2, 5, (-1), 20, 4611686018427387904] : List Int) (by simp) (by simp)
    refine ⟨x5 ++ [v], a2, c2, fun k hk => ?_, by simp⟩
    obtain ⟨k, rfl⟩ : ∃ m, k = m + 1 := ⟨k - 1, by omega⟩
    rw [spec_l1Cur_moves.j1, e, Option.bind_some, if_pos rfl]
    simp only
    rw [e2, Option.bind_some, if_pos (by omega)]
  | false =>
    refine ⟨x5, a1, c1, fun k hk => ?_, by omega⟩
    obtain ⟨k, rfl⟩ : ∃ m, k = m + 1 := ⟨k - 1, by omega⟩
    rw [spec_l1Cur_moves.j1, e, Option.bind_some]
    simp only
    rw [if_neg (by decide)]
theorem drl0 {l : List Int} (n : Nat) : ∀ (x5 : List Int) (s : ByteArray) (a c : Int), RD l a → a + 2 * n ≤ 1000000 → x5.length + n ≤ 50 → ∃ z a' c', (∀ k, n + 70 < k → spec_l1Cur_moves.l0 k x5 s (n : Int) l a c = some (z, a', c')) ∧ z.length ≤ 60 := by
  induction n with
  | zero =>
    intro x5 s a c h hA hx
    obtain ⟨z, a1, c1, e, g⟩ := drj1 h (by omega) c x5 (by omega)
    refine ⟨z, a1, c1, fun k hk => ?_, by omega⟩
    obtain ⟨k, rfl⟩ : ∃ m, k = m + 1 := ⟨k - 1, by omega⟩
    rw [spec_l1Cur_moves.l0, if_neg (by omega)]
    exact e k (by omega)
  | succ n ih =>
    intro x5 s a c h hA hx
    rcases stateCases s with ⟨bs, rfl, h1, h2⟩ | ⟨t, rfl, ht⟩
    · have hne : 1 ≤ (canL bs 0 bs.length).length := by
        obtain ⟨d, hd⟩ : ∃ d, bs.length = d + 1 := ⟨bs.length - 1, by omega⟩
        rw [hd, canL_succ, if_pos (M.can_zero bs)]
        simp
      have hle := canL_length bs 0 bs.length
      obtain ⟨v, a1, c1, e, b1, b2, b3, b4⟩ := pick_ok h (by omega) c ((canL bs 0 bs.length).length : Int) (by omega)
      obtain ⟨m, rfl⟩ := Int.eq_ofNat_of_zero_le b1
      have hm : m < (canL bs 0 bs.length).length := by have := b2 (by omega); omega
      have hr : rd (canL bs 0 bs.length) (m : Int) = (canL bs 0 bs.length)[m] := rd_nat (List.getElem?_eq_getElem hm)
      obtain ⟨j, hj, hjb⟩ : ∃ j : Nat, (canL bs 0 bs.length)[m] = (j : Int) ∧ j < bs.length := by
        have hmem := List.getElem_mem hm
        unfold canL at hmem
        obtain ⟨j, hj, e⟩ := List.mem_map.1 hmem
        have hj := (List.mem_filter.1 hj).1
        rw [List.mem_range'_1] at hj
        exact ⟨j, e.symm, by omega⟩
      obtain ⟨z, a2, c2, e2, g⟩ := ih (x5 ++ [(j : Int)]) (sb (M.flip bs j)) a1 c1 (h.step b3) (by omega) (by simp; omega)
      refine ⟨z, a2, c2, fun k hk => ?_, g⟩
      obtain ⟨k, rfl⟩ : ∃ m, k = m + 1 := ⟨k - 1, by omega⟩
      rw [spec_l1Cur_moves.l0, if_pos (by omega), riGood_sb h1 h2 (by omega), Option.bind_some, if_pos rfl, riMoves (by omega) (by omega), Option.bind_some, e, Option.bind_some]
      simp only
      rw [if_pos (by omega), if_pos (by omega), if_pos (by omega), hr, hj, riMove (by omega) hjb, Option.bind_some, w64 (by omega) (by omega), show (((n + 1 : Nat) : Int) - 1) = (n : Int) by omega]
      exact e2 k (by omega)
    · obtain ⟨z, a1, c1, e, g⟩ := drj1 h (by omega) c x5 (by omega)
      refine ⟨z, a1, c1, fun k hk => ?_, by omega⟩
      obtain ⟨k, rfl⟩ : ∃ m, k = m + 1 := ⟨k - 1, by omega⟩
      rw [spec_l1Cur_moves.l0, if_pos (by omega), riGood (by omega), ht, Option.bind_some, if_neg (by decide)]
      exact e k (by omega)

/-! what the draws of states and moves give -/
theorem dMovesOf {l : List Int} (h : RD l 0) : ∃ s : ByteArray, s.size ≤ 30 ∧ ∀ k, 100 < k → spec_DrawMovesOf.f k l = some s := by
  obtain ⟨z, a1, c1, e1, g1, g2, g3, g4⟩ := state_ok h (by omega) 0
  refine ⟨z, g3, fun k hk => ?_⟩
  unfold spec_DrawMovesOf.f spec_DrawIsState.f spec_DrawIsState_c.f
  rw [e1 k (by omega)]
  rfl
theorem dPlayMoves {l : List Int} (h : RD l 0) : ∃ (s : ByteArray) (x : List Int), s.size ≤ 30 ∧ x.length ≤ 60 ∧ ∀ k, 100 < k → spec_DrawPlayMoves.f k l = some (s, x) := by
  obtain ⟨z, a1, c1, e1, g1, g2, g3, g4⟩ := state_ok h (by omega) 0
  obtain ⟨v, a2, c2, e2, b1, b2, b3, b4⟩ := pick_ok (h.step g1) (by omega) c1 12 (by omega)
  obtain ⟨n, rfl⟩ := Int.eq_ofNat_of_zero_le b1
  have hn : n < 12 := by have := b2 (by omega); omega
  obtain ⟨w, a3, c3, e3, g5⟩ := drl0 n [] z a2 c2 (h.step (Int.le_trans g1 b3)) (by omega) (by simp; omega)
  refine ⟨z, w, g3, g5, fun k hk => ?_⟩
  unfold spec_DrawPlayMoves.f spec_DrawPlayMoves_c.f spec_l1Cur_moves.f
  rw [e1 k (by omega), Option.bind_some]
  simp only
  rw [e2, Option.bind_some]
  simp only
  rw [e3 k (by omega)]
  rfl
theorem dMoveRing {l : List Int} (h : RD l 0) : ∃ (s : ByteArray) (x : Int), s.size ≤ 30 ∧ ∀ k, 100 < k → spec_DrawMoveRing.f k l = some (s, x) := by
  obtain ⟨z, a1, c1, e1, g1, g2, g3, g4⟩ := state_ok h (by omega) 0
  obtain ⟨v, a2, c2, e2, b1, b2, b3, b4⟩ := pick_ok (h.step g1) (by omega) c1 ((z.size : Int) + 2) (by omega)
  refine ⟨z, wrap64 (v - 1), g3, fun k hk => ?_⟩
  unfold spec_DrawMoveRing.f spec_DrawMoveRing_c.f
  rw [e1 k (by omega), Option.bind_some]
  simp only
  rw [w64 (x := (z.size : Int) + 2) (by omega) (by omega), e2]
  rfl
theorem dStateOf {l : List Int} (h : RD l 0) : ∃ x y : Int, spec_DrawStateOfNumber.f l = some (x, y) := by
  obtain ⟨b, a1, c1, e1, g1, g2⟩ := one_ok h (by omega) 0 6 (by omega)
  unfold spec_DrawStateOfNumber.f spec_DrawStateOfNumber_c.f
  rw [e1, Option.bind_some]
  simp only
  cases b with
  | true =>
    obtain ⟨v, a2, c2, e2, _, g3, g4⟩ := among_ok (h.step g1) (by omega) c1 ([1, 2, 3, 4, 5, 7, 10, 20, 21, 0, (-1)] : List Int) (by simp) (by simp)
    obtain ⟨u, a3, c3, e3, _, g5, g6⟩ := among_ok ((h.step g1).step g3) (by omega) c2 ([0, (-1), 1023, 1024, 1048575, 1048576, 4611686018427387904] : List Int) (by simp) (by simp)
    unfold spec_l1Cur_rings.f
    rw [if_pos rfl, e2, Option.bind_some, Option.bind_some]
    simp only
    rw [e3]
    exact ⟨_, _, rfl⟩
  | false =>
    obtain ⟨v, a2, c2, e2, b1, b2, g3, g4⟩ := pick_ok (h.step g1) (by omega) c1 8 (by omega)
    obtain ⟨u, a3, c3, e3, _, _, g5, g6⟩ := pick_ok ((h.step g1).step g3) (by omega) c2 200 (by omega)
    rw [if_neg (by decide), e2, Option.bind_some]
    simp only
    rw [e3]
    exact ⟨_, _, rfl⟩

end Go.Proofs.YtbklkcfmlmneaaaDoor.Pure
