/- What the printed draws give. -/
import Derived.Test.YtancjdpdinbddaaDoorAx1
import Derived.Test.YtancjdpdinbddaaDoorAx3
import Derived.Test.YtancjdpdinbddaaDoorAx4
import Derived.Test.YtancjdpdinbddaaDoorAx5
import Derived.Test.YtancjdpdinbddaaDoorFacts
set_option linter.unusedVariables false
set_option linter.unusedSimpArgs false
namespace Go.Proofs.YtancjdpdinbddaaDoor.Pure
open Go.RowKit Go.Proofs.YtancjdpdinbddaaDoor.A Go.Proofs.YtancjdpdinbddaaDoorW.PrintWords Go.Proofs.YtancjdpdinbddaaDoorW.PrintLast Go.Proofs.YtancjdpdinbddaaDoorW.PrintMore

/-! the reader of choices always answers -/
theorem and255 {x : Int} (h0 : 0 ≤ x) (h1 : x ≤ 9223372036854775807) : Go.bits .and .u64 x 255 = x % 256 := by
  have := Go.bits_mask .u64 63 (by decide) (fun n h0 h1 => by rw [IntKind.wrap_u64]; omega) 8 (by decide) x h0 (by omega)
  simpa using this
theorem u64_le (x : Int) : 0 ≤ IntKind.u64.wrap x ∧ IntKind.u64.wrap x < 18446744073709551616 := by
  rw [IntKind.wrap_u64]; omega
theorem low_byte (x : Int) : 0 ≤ wrap64 (Go.bits .and .u64 (IntKind.u64.wrap x / 1099511627776) 255) ∧ wrap64 (Go.bits .and .u64 (IntKind.u64.wrap x / 1099511627776) 255) ≤ 255 := by
  have := u64_le x
  rw [and255 (by omega) (by omega), w64 (by omega) (by omega)]
  omega
/-- the bytes given, the place reached -/
def RD (l : List Int) (a : Int) : Prop := (∀ x ∈ l, 0 ≤ x ∧ x ≤ 255) ∧ l.length ≤ 1048576 ∧ 0 ≤ a
theorem RD.step {l : List Int} {a b : Int} (h : RD l a) (hb : a ≤ b) : RD l b := ⟨h.1, h.2.1, Int.le_trans h.2.2 hb⟩
theorem next_ok {l : List Int} {a : Int} (h : RD l a) (hA : a ≤ 1000000000000) (s : Int) : ∃ v s', spec_l1Cur_next.f l a s = some (v, a + 1, s') ∧ 0 ≤ v ∧ v ≤ 255 := by
  obtain ⟨hb, hl, h0⟩ := h
  have hw : wrap64 (a + 1) = a + 1 := w64 (by omega) (by omega)
  unfold spec_l1Cur_next.f
  rw [hw]
  by_cases q : a < (l.length : Int)
  · obtain ⟨n, rfl⟩ := Int.eq_ofNat_of_zero_le h0
    have hn : n < l.length := by omega
    have hr : rd l (n : Int) = l[n] := rd_nat (List.getElem?_eq_getElem hn)
    have hv := hb l[n] (List.getElem_mem hn)
    rw [if_pos q, if_pos (by omega), if_pos (by omega), hr, w64 (by omega) (by omega)]
    exact ⟨_, _, rfl, hv.1, hv.2⟩
  · rw [if_neg q]
    by_cases q2 : a + 1 ≤ (l.length : Int)
    · rw [if_pos q2]; exact ⟨_, _, rfl, by omega, by omega⟩
    · rw [if_neg q2]; exact ⟨_, _, rfl, (low_byte _).1, (low_byte _).2⟩
theorem pick_ok {l : List Int} {a : Int} (h : RD l a) (hA : a ≤ 100000000000) (s n : Int) (hn : n ≤ 1000000) : ∃ v a' s', spec_l1Cur_pick.f l a s n = some (v, a', s') ∧ 0 ≤ v ∧ (1 ≤ n → v < n) ∧ a ≤ a' ∧ a' ≤ a + 2 := by
  unfold spec_l1Cur_pick.f
  by_cases q : n ≤ 1
  · rw [if_pos q]; exact ⟨_, _, _, rfl, by omega, by omega, by omega, by omega⟩
  · rw [if_neg q]
    obtain ⟨v, s1, e1, b1, b2⟩ := next_ok h (by omega) s
    rw [e1, Option.bind_some]
    by_cases q2 : n > 200
    · obtain ⟨u, s2, e2, b3, b4⟩ := next_ok (h.step (b := a + 1) (by omega)) (by omega) s1
      rw [if_pos q2, e2, Option.bind_some, if_neg (by omega)]
      simp only
      rw [w64 (x := v * 256) (by omega) (by omega), w64 (by omega) (by omega), Int.tmod_eq_emod_of_nonneg (by omega)]
      exact ⟨_, _, _, rfl, Int.emod_nonneg _ (by omega), fun _ => Int.emod_lt_of_pos _ (by omega), by omega, by omega⟩
    · rw [if_neg q2, if_neg (by omega)]
      simp only
      rw [Int.tmod_eq_emod_of_nonneg (by omega)]
      exact ⟨_, _, _, rfl, Int.emod_nonneg _ (by omega), fun _ => Int.emod_lt_of_pos _ (by omega), by omega, by omega⟩
theorem among_ok {l : List Int} {a : Int} (h : RD l a) (hA : a ≤ 100000000000) (s : Int) (L : List Int) (h1 : 1 ≤ L.length) (h2 : L.length ≤ 200) : ∃ v a' s', spec_l1Cur_among.f l a s L = some (v, a', s') ∧ v ∈ L ∧ a ≤ a' ∧ a' ≤ a + 2 := by
  obtain ⟨v, a', s', e, b1, b2, b3, b4⟩ := pick_ok h hA s (L.length : Int) (by omega)
  obtain ⟨n, rfl⟩ := Int.eq_ofNat_of_zero_le b1
  have hn : n < L.length := by have := b2 (by omega); omega
  have hr : rd L (n : Int) = L[n] := rd_nat (List.getElem?_eq_getElem hn)
  unfold spec_l1Cur_among.f
  rw [e, Option.bind_some]
  simp only
  rw [if_pos (by omega), if_pos (by omega), hr]
  exact ⟨_, _, _, rfl, List.getElem_mem hn, b3, b4⟩
theorem one_ok {l : List Int} {a : Int} (h : RD l a) (hA : a ≤ 100000000000) (s n : Int) (hn : n ≤ 1000000) : ∃ v a' s', spec_l1Cur_one.f l a s n = some (v, a', s') ∧ a ≤ a' ∧ a' ≤ a + 2 := by
  obtain ⟨v, a', s', e, b1, b2, b3, b4⟩ := pick_ok h hA s n hn
  unfold spec_l1Cur_one.f
  rw [e, Option.bind_some]
  exact ⟨_, _, _, rfl, b3, b4⟩

theorem of_ok {l : List Int} {a : Int} (h : RD l a) (hA : a ≤ 100000000000) (s : Int) (L : List ByteArray) (h1 : 1 ≤ L.length) (h2 : L.length ≤ 200) : ∃ v a' s', spec_l1Cur_of.f l a s L = some (v, a', s') ∧ v ∈ L ∧ a ≤ a' ∧ a' ≤ a + 2 := by
  obtain ⟨v, a', s', e, b1, b2, b3, b4⟩ := pick_ok h hA s (L.length : Int) (by omega)
  obtain ⟨n, rfl⟩ := Int.eq_ofNat_of_zero_le b1
  have hn : n < L.length := by have := b2 (by omega); omega
  have hr : rdOf ByteArray.empty L (n : Int) = L[n] := by unfold rdOf; rw [Int.toNat_natCast, List.getD, List.getElem?_eq_getElem hn]; rfl
  unfold spec_l1Cur_of.f
  rw [e, Option.bind_some]
  simp only
  rw [if_pos (by omega), if_pos (by omega), hr]
  exact ⟨_, _, _, rfl, List.getElem_mem hn, b3, b4⟩

theorem far_ok {l : List Int} {a : Int} (h : RD l a) (hA : a ≤ 10000000000) (s : Int) : ∃ v a' s', (∀ k, 0 < k → spec_l1Cur_far.f k l a s = some (v, a', s')) ∧ a ≤ a' ∧ a' ≤ a + 10 := by
  obtain ⟨v, a1, s1, e1, b1, b2, b3, b4⟩ := pick_ok h (by omega) s 8 (by omega)
  have h1 := h.step b3
  have hj : ∀ x : Bool, ∃ v a' s', (∀ k, 0 < k → spec_l1Cur_far.j0 k x l a1 s1 = some (v, a', s')) ∧ a1 ≤ a' ∧ a' ≤ a1 + 4 := by
    intro x
    cases x with
    | true =>
      obtain ⟨v2, a2, s2, e2, c1, c2, c3, c4⟩ := pick_ok h1 (by omega) s1 250 (by omega)
      obtain ⟨v3, a3, s3, e3, d1, d2, d3, d4⟩ := pick_ok (h1.step c3) (by omega) s2 9 (by omega)
      refine ⟨wrap64 ((wrap64 (v2 * 1000003)) * (wrap64 (1 + v3))), a3, s3, fun k hk => ?_, by omega, by omega⟩
      obtain ⟨k, rfl⟩ : ∃ m, k = m + 1 := ⟨k - 1, by omega⟩
      rw [spec_l1Cur_far.j0, if_pos rfl, e2, Option.bind_some]
      simp only
      rw [e3, Option.bind_some]
    | false =>
      obtain ⟨v2, a2, s2, e2, c1, c2, c3, c4⟩ := pick_ok h1 (by omega) s1 200 (by omega)
      refine ⟨v2, a2, s2, fun k hk => ?_, by omega, by omega⟩
      obtain ⟨k, rfl⟩ : ∃ m, k = m + 1 := ⟨k - 1, by omega⟩
      rw [spec_l1Cur_far.j0, if_neg (by decide), e2, Option.bind_some]
  by_cases q : v = 0
  · obtain ⟨v2, a2, s2, e2, c1, c3, c4⟩ := among_ok h1 (by omega) s1 [(-1), 0, 1, 1000000000000, 1000000000001, 549755813888, 4611686018427387904, (-9223372036854775808)] (by simp) (by simp)
    refine ⟨v2, a2, s2, fun k hk => ?_, by omega, by omega⟩
    unfold spec_l1Cur_far.f
    rw [e1, Option.bind_some]
    simp only
    rw [if_pos q, e2, Option.bind_some]
  · by_cases q2 : v = 1
    · obtain ⟨v2, a2, s2, e2, c3, c4⟩ := hj (v == 1)
      refine ⟨v2, a2, s2, fun k hk => ?_, by omega, by omega⟩
      unfold spec_l1Cur_far.f
      rw [e1, Option.bind_some]
      simp only
      rw [if_neg q, if_pos q2]
      exact e2 k hk
    · obtain ⟨v2, a2, s2, e2, c3, c4⟩ := hj (v == 2)
      refine ⟨v2, a2, s2, fun k hk => ?_, by omega, by omega⟩
      unfold spec_l1Cur_far.f
      rw [e1, Option.bind_some]
      simp only
      rw [if_neg q, if_neg q2]
      exact e2 k hk
theorem RD.start {l : List Int} (hb : ∀ x ∈ l, 0 ≤ x ∧ x ≤ 255) (hl : l.length ≤ 1048576) : RD l 0 := ⟨hb, hl, Int.le_refl _⟩
theorem dRefOf {l : List Int} (h : RD l 0) : ∃ v, ∀ k, 0 < k → spec_DrawReflectedOf.f k l = some v := by
  obtain ⟨v, a, s, e, _, _⟩ := far_ok h (by omega) 0
  refine ⟨v, fun k hk => ?_⟩
  unfold spec_DrawReflectedOf.f spec_DrawReflectedOf_c.f
  rw [e k hk]; rfl
theorem dPlain {l : List Int} (h : RD l 0) : ∃ v u, ∀ k, 0 < k → spec_DrawPlainSum.f k l = some (v, u) := by
  obtain ⟨v, a, s, e, c1, c2⟩ := far_ok h (by omega) 0
  obtain ⟨u, a2, s2, e2, d1, d2⟩ := far_ok (h.step c1) (by omega) s
  refine ⟨v, u, fun k hk => ?_⟩
  unfold spec_DrawPlainSum.f spec_DrawPlainSum_c.f
  rw [e k hk, Option.bind_some]
  simp only
  rw [e2 k hk]; rfl
theorem dTimes {l : List Int} (h : RD l 0) : ∃ v u p, ∀ k, 1 < k → spec_DrawTimesChanged.f k l = some (v, u, p) := by
  obtain ⟨v, a, s, e, c1, c2⟩ := far_ok h (by omega) 0
  obtain ⟨u, a2, s2, e2, d1, d2⟩ := far_ok (h.step c1) (by omega) s
  have h2 := (h.step c1).step d1
  have hj : ∀ (x : Bool) (a3 s3 : Int), a2 ≤ a3 → a3 ≤ a2 + 2 → ∃ v' u' p a' s', ∀ k, 0 < k → spec_DrawTimesChanged_c.j0 k v u x l a3 s3 = some (v', u', p, a', s') := by
    intro x a3 s3 g1 g2
    cases x with
    | true =>
      obtain ⟨p, a4, s4, e4, _⟩ := pick_ok (h2.step g1) (by omega) s3 9 (by omega)
      refine ⟨u, v, p, a4, s4, fun k hk => ?_⟩
      obtain ⟨k, rfl⟩ : ∃ m, k = m + 1 := ⟨k - 1, by omega⟩
      rw [spec_DrawTimesChanged_c.j0, if_pos rfl, e4, Option.bind_some]
    | false =>
      obtain ⟨p, a4, s4, e4, _⟩ := among_ok (h2.step g1) (by omega) s3 [0, 1, 2, 5, 39, 50, 51, (-1)] (by simp) (by simp)
      refine ⟨v, u, p, a4, s4, fun k hk => ?_⟩
      obtain ⟨k, rfl⟩ : ∃ m, k = m + 1 := ⟨k - 1, by omega⟩
      rw [spec_DrawTimesChanged_c.j0, if_neg (by decide), e4, Option.bind_some]
  by_cases q : v > u
  · obtain ⟨y, a3, s3, e3, g1, g2⟩ := one_ok h2 (by omega) s2 6 (by omega)
    obtain ⟨v', u', p, a', s', ej⟩ := hj (!y) a3 s3 g1 g2
    refine ⟨v', u', p, fun k hk => ?_⟩
    unfold spec_DrawTimesChanged.f spec_DrawTimesChanged_c.f
    rw [e k (by omega), Option.bind_some]
    simp only
    rw [e2 k (by omega), Option.bind_some]
    simp only
    rw [if_pos q, e3, Option.bind_some]
    simp only
    rw [ej k (by omega)]; rfl
  · obtain ⟨v', u', p, a', s', ej⟩ := hj false a2 s2 (by omega) (by omega)
    refine ⟨v', u', p, fun k hk => ?_⟩
    unfold spec_DrawTimesChanged.f spec_DrawTimesChanged_c.f
    rw [e k (by omega), Option.bind_some]
    simp only
    rw [e2 k (by omega), Option.bind_some]
    simp only
    rw [if_neg q, ej k (by omega)]; rfl
theorem dRefText {l : List Int} (h : RD l 0) : ∃ v u, ∀ k, 0 < k → spec_DrawReflectedText.f k l = some (v, u) := by
  obtain ⟨v, a, s, e, c1, c2⟩ := far_ok h (by omega) 0
  obtain ⟨u, a2, s2, e2, _⟩ := among_ok (h.step c1) (by omega) s [0, 1, 3, 4, 7, 8, 8, 20, 40, 40, 41, (-1)] (by simp) (by simp)
  refine ⟨v, u, fun k hk => ?_⟩
  unfold spec_DrawReflectedText.f spec_DrawReflectedText_c.f
  rw [e k hk, Option.bind_some]
  simp only
  rw [e2]; rfl
theorem tx_small {a b : Int} {t : ByteArray} {c : Bool} (H : TX a b t c) : c = true → t.size ≤ 40 := by
  intro hc
  rcases H with ⟨n, q, _, _, _, hq, _, _, rfl, _⟩ | rfl
  · rw [sb_size, List.length_reverse, M.st_length]; omega
  · cases hc
theorem dRank {l : List Int} (h : RD l 0) : ∃ s : ByteArray, s.size ≤ 1048576 ∧ ∀ k, 60 ≤ k → spec_DrawRankOfText.f k l = some s := by
  obtain ⟨v, a1, s1, e1, _, _, c1, c2⟩ := pick_ok h (by omega) 0 250 (by omega)
  obtain ⟨u, a2, s2, e2, _, _, d1, d2⟩ := pick_ok (h.step c1) (by omega) s1 10 (by omega)
  have h2 := (h.step c1).step d1
  obtain ⟨t, c, HT, ht⟩ := text_all v (wrap64 (1 + u))
  have hof : ∀ (a3 s3 : Int), a2 ≤ a3 → a3 ≤ a2 + 2 → ∃ z a' s', spec_l1Cur_of.f l a3 s3 (([(⟨#[]⟩ : ByteArray), (⟨#[48]⟩ : ByteArray), (⟨#[49]⟩ : ByteArray), (⟨#[48, 49, 50]⟩ : ByteArray), (⟨#[49, 49, 49, 49, 49, 49, 49, 49, 49, 49, 49, 49, 49, 49, 49, 49, 49, 49, 49, 49, 49, 49, 49, 49, 49, 49, 49, 49, 49, 49, 49, 49, 49, 49, 49, 49, 49, 49, 49, 49]⟩ : ByteArray), (⟨#[49, 49, 49, 49, 49, 49, 49, 49, 49, 49, 49, 49, 49, 49, 49, 49, 49, 49, 49, 49, 49, 49, 49, 49, 49, 49, 49, 49, 49, 49, 49, 49, 49, 49, 49, 49, 49, 49, 49, 49, 49]⟩ : ByteArray), (⟨#[48, 48, 48, 48, 48, 48, 48, 48, 48, 48, 48, 48, 48, 48, 48, 48, 48, 48, 48, 48, 48, 48, 48, 48, 48, 48, 48, 48, 48, 48, 48, 48, 48, 48, 48, 48, 48, 48, 48, 49]⟩ : ByteArray)] : List ByteArray)) = some (z, a', s') ∧ z.size ≤ 100 := by
    intro a3 s3 g1 g2
    obtain ⟨z, a4, s4, e4, hz, _⟩ := of_ok (h2.step g1) (by omega) s3 (([(⟨#[]⟩ : ByteArray), (⟨#[48]⟩ : ByteArray), (⟨#[49]⟩ : ByteArray), (⟨#[48, 49, 50]⟩ : ByteArray), (⟨#[49, 49, 49, 49, 49, 49, 49, 49, 49, 49, 49, 49, 49, 49, 49, 49, 49, 49, 49, 49, 49, 49, 49, 49, 49, 49, 49, 49, 49, 49, 49, 49, 49, 49, 49, 49, 49, 49, 49, 49]⟩ : ByteArray), (⟨#[49, 49, 49, 49, 49, 49, 49, 49, 49, 49, 49, 49, 49, 49, 49, 49, 49, 49, 49, 49, 49, 49, 49, 49, 49, 49, 49, 49, 49, 49, 49, 49, 49, 49, 49, 49, 49, 49, 49, 49, 49]⟩ : ByteArray), (⟨#[48, 48, 48, 48, 48, 48, 48, 48, 48, 48, 48, 48, 48, 48, 48, 48, 48, 48, 48, 48, 48, 48, 48, 48, 48, 48, 48, 48, 48, 48, 48, 48, 48, 48, 48, 48, 48, 48, 48, 49]⟩ : ByteArray)] : List ByteArray)) (by simp) (by simp)
    refine ⟨z, a4, s4, e4, ?_⟩
    simp only [List.mem_cons, List.not_mem_nil, or_false] at hz
    rcases hz with rfl | rfl | rfl | rfl | rfl | rfl | rfl <;> decide
  cases c with
  | true =>
    obtain ⟨y, a3, s3, e3, g1, g2⟩ := one_ok h2 (by omega) s2 10 (by omega)
    cases y with
    | true =>
      obtain ⟨z, a4, s4, e4, hz⟩ := hof a3 s3 g1 g2
      refine ⟨z, by omega, fun k hk => ?_⟩
      unfold spec_DrawRankOfText.f spec_DrawRankOfText_c.f
      rw [e1, Option.bind_some]
      simp only
      rw [e2, Option.bind_some]
      simp only
      rw [(ht k hk).2, Option.bind_some]
      simp only
      rw [if_pos trivial, e3, Option.bind_some]
      simp only
      rw [if_pos trivial, e4]; rfl
    | false =>
      refine ⟨t, by have := tx_small HT rfl; omega, fun k hk => ?_⟩
      unfold spec_DrawRankOfText.f spec_DrawRankOfText_c.f
      rw [e1, Option.bind_some]
      simp only
      rw [e2, Option.bind_some]
      simp only
      rw [(ht k hk).2, Option.bind_some]
      simp only
      rw [if_pos trivial, e3, Option.bind_some]
      simp only
      rw [if_neg (by decide)]; rfl
  | false =>
    obtain ⟨z, a4, s4, e4, hz⟩ := hof a2 s2 (by omega) (by omega)
    refine ⟨z, by omega, fun k hk => ?_⟩
    unfold spec_DrawRankOfText.f spec_DrawRankOfText_c.f
    rw [e1, Option.bind_some]
    simp only
    rw [e2, Option.bind_some]
    simp only
    rw [(ht k hk).2, Option.bind_some]
    simp only
    rw [if_neg (by decide), e4]; rfl

end Go.Proofs.YtancjdpdinbddaaDoor.Pure
