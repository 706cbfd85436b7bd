/- What the printed functions of orders by swaps give. -/
import Derived.Test.YtomaodhlcacobaaAx10
import Derived.Test.YtomaodhlcacobaaAx11
import Derived.Test.YtomaodhlcacobaaAx12
import Derived.Test.YtomaodhlcacobaaAx4
import Derived.Test.YtomaodhlcacobaaMS
import Derived.Test.YtomaodhlcacobaaDigits
set_option linter.unusedVariables false
set_option linter.unusedSimpArgs false
namespace Go.Proofs.Ytomaodhlcacobaa.Pure
open Go.RowKit Go.Proofs.Ytomaodhlcacobaa.A Go.Proofs.YtomaodhlcacobaaW.PrintWords Go.Proofs.YtomaodhlcacobaaW.PrintLast Go.Proofs.YtomaodhlcacobaaW.PrintMore

/-! orders by swaps, over natural numbers -/
theorem fact_small : ∀ j, j < 11 → M.fact j ≤ 3628800 := by decide
theorem perm_below {s : Nat} {ns : List Nat} (h : M.Perm s ns) : ∀ d j, j + d = s → M.Perm j (M.below j ns)
  | 0, j, e => by
    have e' : j = s := by omega
    rw [e', M.below_all h.lt]; exact h
  | d + 1, j, e => by
    have := (perm_below h d (j + 1) (by omega)).below
    rwa [M.below_below (by omega)] at this
theorem srk_lt {s : Nat} {ns : List Nat} (h : M.Perm s ns) {j : Nat} (hj : j ≤ s) (hs : s ≤ 10) : M.srk j ns < M.fact j ∧ M.srk j ns < 3628800 := by
  have h1 := (M.sw_srk (perm_below h (s - j) j (by omega))).2
  rw [M.srk_below _ (Nat.le_refl j)] at h1
  have h2 := fact_small j (by omega)
  exact ⟨h1, by omega⟩
theorem idx_below_lt {s : Nat} {ns : List Nat} (h : M.Perm s ns) {j : Nat} (hj : j < s) : M.idx j (M.below (j + 1) ns) < j + 1 := by
  have hp := perm_below h (s - (j + 1)) (j + 1) (by omega)
  have := M.idx_lt hp.mem
  rwa [hp.len] at this
theorem cut_filter {x : Nat} : ∀ {l : List Nat}, x ∈ l → l.Nodup → l.take (M.idx x l) ++ l.drop (M.idx x l + 1) = l.filter (· ≠ x)
  | y :: r, h, hn => by
    obtain ⟨h1, h2⟩ := List.nodup_cons.1 hn
    rw [M.idx]
    by_cases e : y = x
    · subst e
      rw [if_pos rfl, List.filter_cons, if_neg (by simp)]
      have : r.filter (· ≠ y) = r := by
        rw [List.filter_eq_self]
        intro z hz
        have : z ≠ y := fun e => h1 (e ▸ hz)
        simp [this]
      rw [this]; rfl
    · rw [if_neg e, List.filter_cons, if_pos (by simpa using e)]
      rcases List.mem_cons.1 h with rfl | h
      · exact absurd rfl e
      · rw [← cut_filter h h2]; rfl
/-! the place of a number in a list -/
def ix (x : Int) : List Int → Nat
  | [] => 0
  | y :: r => if x = y then 0 else ix x r + 1
theorem ix_nat (x : Nat) : ∀ ns : List Nat, ix (x : Int) (ns.map Int.ofNat) = M.idx x ns
  | [] => rfl
  | y :: r => by
    rw [List.map_cons, ix, M.idx, ix_nat x r]
    by_cases e : y = x
    · subst e; rw [if_pos rfl]; exact if_pos rfl
    · rw [if_neg e, if_neg (by intro z; apply e; have z' : (x : Int) = (y : Int) := z; omega)]
theorem index_l0 {l : List Int} {x : Int} (hl : l.length ≤ 2000000) (r : List Int) : ∀ (k i : Nat), l.drop i = r → r.length < k →
    slices_Index_int_int.l0 k l x (l.length : Int) (i : Int) = some (if x ∈ r then ((i + ix x r : Nat) : Int) else -1) := by
  induction r with
  | nil =>
    intro k i hd hk
    obtain ⟨k, rfl⟩ : ∃ m, k = m + 1 := ⟨k - 1, by omega⟩
    have : l.length ≤ i := List.drop_eq_nil_iff.1 hd
    simp only [slices_Index_int_int.l0]
    rw [if_neg (by omega)]; simp
  | cons y r ih =>
    intro k i hd hk
    obtain ⟨k, rfl⟩ : ∃ m, k = m + 1 := ⟨k - 1, by omega⟩
    obtain ⟨h2, h3, h4⟩ := getElem?_drop_cons hd
    simp only [slices_Index_int_int.l0]
    rw [if_pos (by omega), if_pos (by omega), if_pos (by omega), rd_nat h2]
    by_cases e : x = y
    · subst e
      rw [if_pos rfl, if_pos (by simp), ix, if_pos rfl]; rfl
    · rw [if_neg e, w64 (by omega) (by omega), show ((i : Int) + 1) = ((i + 1 : Nat) : Int) by omega, ih k (i + 1) h3 (by simp at hk; omega), ix, if_neg e]
      by_cases hm : x ∈ r
      · rw [if_pos hm, if_pos (by simp [hm])]
        congr 1; omega
      · rw [if_neg hm, if_neg (by simp [hm, e])]
theorem index {l : List Int} {x : Int} {k : Nat} (hl : l.length ≤ 2000000) (hk : l.length < k) : slices_Index_int_int.f k l x = some (if x ∈ l then (ix x l : Int) else -1) := by
  unfold slices_Index_int_int.f
  have := index_l0 (x := x) hl l k 0 (by simp) hk
  simpa using this
theorem contains {l : List Int} {x : Int} {k : Nat} (hl : l.length ≤ 2000000) (hk : l.length < k) : slices_Contains_int_int.f k l x = some (decide (x ∈ l)) := by
  unfold slices_Contains_int_int.f
  rw [index hl hk]
  by_cases h : x ∈ l
  · rw [if_pos h]; simp [h]
  · rw [if_neg h]; simp [h]
theorem has_l0 {l : List Int} {x : Int} (hl : l.length ≤ 2000000) (r : List Int) : ∀ (k i : Nat), l.drop i = r → r.length < k →
    spec_l1Has.l0 k x l (l.length : Int) (i : Int) = some (decide (x ∈ r)) := by
  induction r with
  | nil =>
    intro k i hd hk
    obtain ⟨k, rfl⟩ : ∃ m, k = m + 1 := ⟨k - 1, by omega⟩
    have : l.length ≤ i := List.drop_eq_nil_iff.1 hd
    simp only [spec_l1Has.l0]
    rw [if_neg (by omega)]; simp
  | cons y r ih =>
    intro k i hd hk
    obtain ⟨k, rfl⟩ : ∃ m, k = m + 1 := ⟨k - 1, by omega⟩
    obtain ⟨h2, h3, h4⟩ := getElem?_drop_cons hd
    simp only [spec_l1Has.l0]
    rw [if_pos (by omega), if_pos (by omega), if_pos (by omega), rd_nat h2]
    by_cases e : y = x
    · subst e
      rw [if_pos rfl]; simp
    · have e' : ¬ x = y := fun z => e z.symm
      rw [if_neg e, w64 (by omega) (by omega), show ((i : Int) + 1) = ((i + 1 : Nat) : Int) by omega, ih k (i + 1) h3 (by simp at hk; omega)]
      simp [e']
theorem has {l : List Int} {x : Int} {k : Nat} (hl : l.length ≤ 2000000) (hk : l.length < k) : spec_l1Has.f k l x = some (decide (x ∈ l)) := by
  unfold spec_l1Has.f
  exact has_l0 hl l k 0 (by simp) hk
/-! a list that has each number once -/
def rng (l : List Int) : Prop := ∀ x ∈ l, 0 ≤ x ∧ x ≤ (l.length : Int) - 1
theorem take_succ_nodup {l : List Int} {i : Nat} {x : Int} (h : l[i]? = some x) : (l.take (i + 1)).Nodup ↔ (l.take i).Nodup ∧ x ∉ l.take i := by
  rw [List.take_add_one, h]
  simp only [Option.toList_some]
  rw [List.nodup_append]
  constructor
  · rintro ⟨h1, _, h3⟩
    exact ⟨h1, fun hx => h3 x hx x (by simp) rfl⟩
  · rintro ⟨h1, h2⟩
    refine ⟨h1, by simp, ?_⟩
    intro a ha b hb
    have : b = x := by simpa using hb
    subst this
    rintro rfl
    exact h2 ha
theorem isPerm_l0 {l : List Int} (hl : l.length ≤ 10) (d : Nat) : ∀ (k i : Nat), i + d = l.length → d + 12 < k → (l.take i).Nodup → (∀ x ∈ l.take i, 0 ≤ x ∧ x ≤ (l.length : Int) - 1) → ∀ b : Bool, (b = true ↔ rng l ∧ l.Nodup) →
    impl_isPermutation.l0 k l l (l.length : Int) (i : Int) = some b := by
  induction d with
  | zero =>
    intro k i hi hk hn hr b hb
    obtain ⟨k, rfl⟩ : ∃ m, k = m + 1 := ⟨k - 1, by omega⟩
    rw [List.take_of_length_le (by omega)] at hn hr
    rw [impl_isPermutation.l0, if_neg (by omega), hb.2 ⟨hr, hn⟩]
  | succ d ih =>
    intro k i hi hk hn hr b hb
    obtain ⟨k, rfl⟩ : ∃ m, k = m + 1 := ⟨k - 1, by omega⟩
    have hx : l[i]? = some l[i] := List.getElem?_eq_getElem (by omega)
    have hmem : l[i] ∈ l := List.getElem_mem _
    rw [impl_isPermutation.l0, if_pos (by omega), if_pos (by omega), if_pos (by omega), rd_nat hx, in_val, w64 (by omega) (by omega)]
    simp only [Option.bind_some]
    by_cases q : 0 ≤ l[i] ∧ l[i] ≤ (l.length : Int) - 1
    · rw [decide_eq_true q, if_pos rfl, if_pos (by omega), Int.toNat_natCast, contains (by rw [List.length_take]; omega) (by rw [List.length_take]; omega)]
      simp only [Option.bind_some]
      by_cases q2 : l[i] ∈ l.take i
      · rw [decide_eq_true q2, if_pos rfl]
        have : b = false := by
          cases b with
          | false => rfl
          | true =>
            have h1 := (hb.1 rfl).2
            have h2 : (l.take (i + 1)).Nodup := h1.sublist (List.take_sublist _ _)
            exact absurd q2 ((take_succ_nodup hx).1 h2).2
        rw [this]
      · rw [decide_eq_false q2, if_neg (by decide), w64 (by omega) (by omega), show ((i : Int) + 1) = ((i + 1 : Nat) : Int) by omega]
        refine ih k (i + 1) (by omega) (by omega) ((take_succ_nodup hx).2 ⟨hn, q2⟩) ?_ b hb
        intro x hx'
        rw [List.take_add_one, hx] at hx'
        rcases List.mem_append.1 hx' with hx' | hx'
        · exact hr x hx'
        · have : x = l[i] := by simpa using hx'
          subst this; exact q
    · rw [decide_eq_false q, if_neg (by decide)]
      have : b = false := by
        cases b with
        | false => rfl
        | true => exact absurd ((hb.1 rfl).1 _ hmem) q
      rw [this]
theorem rng_nats {l : List Int} (hr : rng l) (hn : l.Nodup) : ∃ ns : List Nat, l = ns.map Int.ofNat ∧ M.Perm ns.length ns := by
  obtain ⟨ns, rfl⟩ := toNats (l := l) (fun x hx => (hr x hx).1)
  refine ⟨ns, rfl, rfl, ?_, ?_⟩
  · intro x hx
    have := (hr (Int.ofNat x) (List.mem_map.2 ⟨x, hx, rfl⟩)).2
    rw [List.length_map] at this
    have h2 : (x : Int) ≤ (ns.length : Int) - 1 := this
    omega
  · rw [List.nodup_iff_pairwise_ne, List.pairwise_map] at hn
    rw [List.nodup_iff_pairwise_ne]
    exact hn.imp (fun {a b} h e => h (by rw [e]))
/-! the program's rank -/
theorem swapRank : ∀ (s k : Nat) (ns : List Nat), s ≤ 10 → M.Perm s ns → 12 + s < k → impl_swapRank.f k (ns.map Int.ofNat) = some (M.srk s ns : Int)
  | 0, k, ns, _, h, hk => by
    obtain ⟨k, rfl⟩ : ∃ m, k = m + 1 := ⟨k - 1, by omega⟩
    rw [impl_swapRank.f, if_pos (by rw [List.length_map, h.len])]; rfl
  | s + 1, k, ns, hs, h, hk => by
    obtain ⟨k, rfl⟩ : ∃ m, k = m + 1 := ⟨k - 1, by omega⟩
    have hlen : (ns.map Int.ofNat).length = s + 1 := by rw [List.length_map, h.len]
    have hm := h.mem
    have hmI : (s : Int) ∈ ns.map Int.ofNat := List.mem_map.2 ⟨s, hm, rfl⟩
    have hi := M.idx_lt hm
    rw [h.len] at hi
    have ih := swapRank s k (M.below s ns) (by omega) h.below (by omega)
    have hcut : cutAt (ns.map Int.ofNat) (M.idx s ns) = (M.below s ns).map Int.ofNat := by
      unfold cutAt
      rw [← List.map_take, ← List.map_drop, ← List.map_append, cut_filter hm h.nodup, h.filter_ne]
    obtain ⟨hb1, hb2⟩ := srk_lt h (j := s) (by omega) hs
    rw [M.srk_below _ (Nat.le_refl s)] at ih
    have ew : Aside0 (wrap64 (((s + 1 : Nat) : Int) - 1) = (s : Int)) := ⟨by rw [w64 (by omega) (by omega)]; omega⟩
    rw [impl_swapRank.f, hlen, if_neg (by omega), ew.out, index (by omega) (by omega), if_pos hmI, ix_nat]
    simp only [Option.bind_some]
    rw [if_pos (by omega), if_pos (by omega), if_pos (by omega), Int.toNat_natCast, hcut, ih]
    simp only [Option.bind_some]
    rw [M.srk, M.below_all h.lt]
    unfold M.rst
    generalize M.srk s ns = R at *
    generalize M.idx s ns = a at *
    have hR : R * (s + 1) ≤ 3628800 * 10 := Nat.mul_le_mul (by omega) (by omega)
    have ht : Int.tmod (R : Int) 2 = ((R % 2 : Nat) : Int) := by rw [Int.tmod_eq_emod_of_nonneg (by omega)]; omega
    have em : Aside0 (wrap64 ((R : Int) * ((s + 1 : Nat) : Int)) = ((R * (s + 1) : Nat) : Int)) := ⟨by rw [← Int.natCast_mul, w64 (by omega) (by omega)]⟩
    rw [ht, em.out]
    generalize R * (s + 1) = m at *
    by_cases q : R % 2 = 0
    · rw [if_pos (by omega), if_pos q, w64 (x := (s : Int) - (a : Int)) (by omega) (by omega), w64 (by omega) (by omega)]
      congr 1; omega
    · rw [if_neg (by omega), if_neg q, w64 (by omega) (by omega)]
      congr 1
/-! the reference's rank -/
/-- what one number adds -/
def stp (R c a : Nat) : Nat := R * (c + 1) + (if R % 2 = 0 then c - a else a)
theorem l2_at {ns : List Nat} {c R : Nat} (hl : ns.length ≤ 10) (hc : c < 10) (hR : R < 3628800) (s : Int) (r : List Nat) : ∀ (K K' i a : Nat), ns.drop i = r → c ∈ r → K = K' + M.idx c r + 1 → a + M.idx c (M.below (c + 1) r) ≤ c →
    spec_RankOfSwapped.l2 K (ns.map Int.ofNat) s (R : Int) ((c + 1 : Nat) : Int) (a : Int) (ns.map Int.ofNat) (ns.length : Int) (i : Int) = spec_RankOfSwapped.l1 K' (ns.map Int.ofNat) s ((stp R c (a + M.idx c (M.below (c + 1) r)) : Nat) : Int) ((c + 2 : Nat) : Int) := by
  induction r with
  | nil => intro K K' i a _ h _ _; simp at h
  | cons y r ih =>
    intro K K' i a hd hm hK ha
    obtain ⟨K, rfl⟩ : ∃ m, K = m + 1 := ⟨K - 1, by omega⟩
    obtain ⟨h2, h3, h4⟩ := getElem?_drop_cons hd
    have h2' : (ns.map Int.ofNat)[i]? = some (y : Int) := by rw [List.getElem?_map, h2]; rfl
    have ew : Aside0 (wrap64 (((c + 1 : Nat) : Int) - 1) = (c : Int)) := ⟨by rw [w64 (by omega) (by omega)]; omega⟩
    have ep : Aside0 (wrap64 (((c + 1 : Nat) : Int) + 1) = ((c + 2 : Nat) : Int)) := ⟨by rw [w64 (by omega) (by omega)]; omega⟩
    have ei : Aside0 (wrap64 ((i : Int) + 1) = ((i + 1 : Nat) : Int)) := ⟨by rw [w64 (by omega) (by omega)]; omega⟩
    have ea : Aside0 (a < 10 → wrap64 ((a : Int) + 1) = ((a + 1 : Nat) : Int)) := ⟨fun _ => by rw [w64 (by omega) (by omega)]; omega⟩
    have hRm : R * (c + 1) ≤ 3628800 * 10 := Nat.mul_le_mul (by omega) (by omega)
    have ht : Int.tmod (R : Int) 2 = ((R % 2 : Nat) : Int) := by rw [Int.tmod_eq_emod_of_nonneg (by omega)]; omega
    have em : Aside0 (wrap64 ((R : Int) * ((c + 1 : Nat) : Int)) = ((R * (c + 1) : Nat) : Int)) := ⟨by rw [← Int.natCast_mul, w64 (by omega) (by omega)]⟩
    rw [spec_RankOfSwapped.l2, if_pos (by omega), if_pos (by omega), if_pos (by rw [List.length_map]; omega), rd_nat h2', ew.out, ei.out]
    by_cases e : y = c
    · subst e
      have hz : M.idx y (M.below (y + 1) (y :: r)) = 0 := by
        have : M.below (y + 1) (y :: r) = y :: M.below (y + 1) r := by unfold M.below; rw [List.filter_cons, if_pos (by simp)]
        rw [this, M.idx, if_pos rfl]
      rw [hz] at ha ⊢
      rw [M.idx, if_pos rfl] at hK
      have hK' : K = K' := by omega
      subst hK'
      rw [if_pos rfl, ht, em.out, ep.out]
      unfold stp
      rw [Nat.add_zero]
      generalize R * (y + 1) = m at *
      by_cases q : R % 2 = 0
      · rw [if_pos (by omega), if_pos q, w64 (x := (y : Int) - (a : Int)) (by omega) (by omega), w64 (by omega) (by omega)]
        congr 1; omega
      · rw [if_neg (by omega), if_neg q, w64 (by omega) (by omega)]
        congr 1
    · rcases List.mem_cons.1 hm with rfl | hm
      · exact absurd rfl e
      rw [M.idx, if_neg e] at hK
      rw [if_neg (by omega)]
      by_cases q : y < c + 1
      · have hb : M.below (c + 1) (y :: r) = y :: M.below (c + 1) r := by unfold M.below; rw [List.filter_cons, if_pos (by simpa using q)]
        rw [hb, M.idx, if_neg e] at ha ⊢
        rw [if_pos (by omega), ea.out (by omega)]
        have := ih K K' (i + 1) (a + 1) h3 hm (by omega) (by omega)
        rw [this, show a + 1 + M.idx c (M.below (c + 1) r) = a + (M.idx c (M.below (c + 1) r) + 1) by omega]
      · have hb : M.below (c + 1) (y :: r) = M.below (c + 1) r := by unfold M.below; rw [List.filter_cons, if_neg (by simpa using q)]
        rw [hb] at ha ⊢
        rw [if_neg (by omega)]
        exact ih K K' (i + 1) a h3 hm (by omega) ha
theorem l1_at {ns : List Nat} {s : Nat} (hs : s ≤ 10) (h : M.Perm s ns) (d : Nat) : ∀ (K j : Nat), j + d = s → d * 14 + 2 < K →
    spec_RankOfSwapped.l1 K (ns.map Int.ofNat) (s : Int) (M.srk j ns : Int) ((j + 1 : Nat) : Int) = some ((M.srk s ns : Int), true) := by
  induction d with
  | zero =>
    intro K j hj hK
    obtain ⟨K, rfl⟩ : ∃ m, K = m + 1 := ⟨K - 1, by omega⟩
    have : j = s := by omega
    subst this
    rw [spec_RankOfSwapped.l1, if_neg (by omega)]
  | succ d ih =>
    intro K j hj hK
    obtain ⟨K, rfl⟩ : ∃ m, K = m + 1 := ⟨K - 1, by omega⟩
    have hmem : j ∈ ns := by
      have := (perm_below h (s - (j + 1)) (j + 1) (by omega)).mem
      exact (List.mem_filter.1 this).1
    have hi := M.idx_lt hmem
    rw [h.len] at hi
    obtain ⟨hb1, hb2⟩ := srk_lt h (j := j) (by omega) hs
    have hib := idx_below_lt h (j := j) (by omega)
    obtain ⟨K', hK'⟩ : ∃ K', K = K' + M.idx j ns + 1 := ⟨K - M.idx j ns - 1, by omega⟩
    have e := l2_at (ns := ns) (c := j) (R := M.srk j ns) (by rw [h.len]; omega) (by omega) hb2 (s : Int) ns K K' 0 0 (by simp) hmem hK' (by omega)
    rw [h.len, Nat.zero_add] at e
    have hr : M.srk (j + 1) ns = stp (M.srk j ns) j (M.idx j (M.below (j + 1) ns)) := by rw [M.srk]; rfl
    rw [← hr] at e
    have hl2 : ((ns.map Int.ofNat).length : Int) = (s : Int) := by rw [List.length_map, h.len]
    rw [spec_RankOfSwapped.l1, if_pos (by omega), hl2]
    exact e.trans (ih K' (j + 1) (by omega) (by omega))
theorem has_l0_ok {l : List Int} {s : Int} (hl : l.length ≤ 10) (hn : l.Nodup) (d : Nat) : ∀ (i k K : Nat), K = k + d + 1 → i + d = l.length → 12 < k →
    spec_RankOfSwapped.l0 K l s l (l.length : Int) (i : Int) = spec_RankOfSwapped.l1 k l s 0 1 := by
  induction d with
  | zero =>
    intro i k K hK hi hk
    subst hK
    rw [Nat.add_zero, spec_RankOfSwapped.l0, if_neg (by omega)]
  | succ d ih =>
    intro i k K hK hi hk
    obtain ⟨K, rfl⟩ : ∃ m, K = m + 1 := ⟨K - 1, by omega⟩
    have hx : l[i]? = some l[i] := List.getElem?_eq_getElem (by omega)
    have h2 : (l.take (i + 1)).Nodup := hn.sublist (List.take_sublist _ _)
    have q := ((take_succ_nodup hx).1 h2).2
    have hh : spec_l1Has.f K (l.take i) l[i] = some false := by rw [has (by rw [List.length_take]; omega) (by rw [List.length_take]; omega), decide_eq_false q]
    rw [spec_RankOfSwapped.l0, if_pos (by omega), if_pos (by omega), if_pos (by omega), if_pos (by omega), rd_nat hx, Int.toNat_natCast, hh]
    simp only [Option.bind_some, Bool.false_eq_true, if_false]
    rw [w64 (by omega) (by omega), show ((i : Int) + 1) = ((i + 1 : Nat) : Int) by omega]
    exact ih (i + 1) k K (by omega) (by omega) hk
theorem has_l0_bad {l : List Int} {s : Int} (hl : l.length ≤ 10) (hn : ¬ l.Nodup) (d : Nat) : ∀ (i K : Nat), i + d = l.length → d + 12 < K → (l.take i).Nodup →
    spec_RankOfSwapped.l0 K l s l (l.length : Int) (i : Int) = some (0, false) := by
  induction d with
  | zero =>
    intro i K hi hK ht
    rw [List.take_of_length_le (by omega)] at ht
    exact absurd ht hn
  | succ d ih =>
    intro i K hi hK ht
    obtain ⟨K, rfl⟩ : ∃ m, K = m + 1 := ⟨K - 1, by omega⟩
    have hx : l[i]? = some l[i] := List.getElem?_eq_getElem (by omega)
    have hh : spec_l1Has.f K (l.take i) l[i] = some (decide (l[i] ∈ l.take i)) := has (by rw [List.length_take]; omega) (by rw [List.length_take]; omega)
    rw [spec_RankOfSwapped.l0, if_pos (by omega), if_pos (by omega), if_pos (by omega), if_pos (by omega), rd_nat hx, Int.toNat_natCast, hh]
    simp only [Option.bind_some]
    by_cases q : l[i] ∈ l.take i
    · rw [decide_eq_true q, if_pos rfl]
    · rw [decide_eq_false q, if_neg (by decide), w64 (by omega) (by omega), show ((i : Int) + 1) = ((i + 1 : Nat) : Int) by omega]
      exact ih (i + 1) K (by omega) (by omega) ((take_succ_nodup hx).2 ⟨ht, q⟩)

end Go.Proofs.Ytomaodhlcacobaa.Pure
