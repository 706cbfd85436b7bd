/- What the printed functions of mixed digits and of orders by swaps give. -/
import Derived.Test.YtcgilnmljflebaaAx1
import Derived.Test.YtcgilnmljflebaaAx10
import Derived.Test.YtcgilnmljflebaaAx11
import Derived.Test.YtcgilnmljflebaaAx12
import Derived.Test.YtcgilnmljflebaaAx13
import Derived.Test.YtcgilnmljflebaaAx7
import Derived.Test.YtcgilnmljflebaaAx8
import Derived.Test.YtcgilnmljflebaaAx9
import Derived.Test.YtcgilnmljflebaaSets
set_option linter.unusedVariables false
set_option linter.unusedSimpArgs false
namespace Go.Proofs.Ytcgilnmljflebaa.Pure
open Go.RowKit Go.Proofs.Ytcgilnmljflebaa.A Go.Proofs.YtcgilnmljflebaaW.PrintWords Go.Proofs.YtcgilnmljflebaaW.PrintLast Go.Proofs.YtcgilnmljflebaaW.PrintMore
theorem toNats {l : List Int} (h : ∀ x ∈ l, 0 ≤ x) : ∃ ns : List Nat, l = ns.map Int.ofNat := by
  refine ⟨l.map Int.toNat, ?_⟩
  rw [List.map_map]
  conv => lhs; rw [← List.map_id l]
  apply List.map_congr_left
  intro x hx
  have := h x hx
  show x = ((x.toNat : Nat) : Int)
  omega
theorem prod_le : ∀ {l : List Nat}, (∀ x ∈ l, x ≤ 20) → M.prod l ≤ 20 ^ l.length
  | [], _ => by decide
  | a :: r, h => by
    have := prod_le (l := r) (fun x hx => h x (by simp [hx]))
    rw [M.prod, List.length_cons, Nat.pow_succ, Nat.mul_comm (20 ^ r.length) 20]
    exact Nat.mul_le_mul (h a (by simp)) this
theorem prod_le8 {l : List Nat} (h : ∀ x ∈ l, x ≤ 20) (hl : l.length ≤ 8) : M.prod l ≤ 25600000000 :=
  Nat.le_trans (prod_le h) (Nat.le_trans (Nat.pow_le_pow_right (by decide) hl) (by decide))
theorem nuProduct_l0 {l : List Int} (hl : l.length ≤ 2000000) (r : List Nat) : ∀ (k i x : Nat), l.drop i = r.map Int.ofNat → (∀ y ∈ r, 0 < y) → x * M.prod r < 2 ^ 62 → r.length < k →
    spec_nuProduct.l0 k (x : Int) l (l.length : Int) (i : Int) = some ((x * M.prod r : Nat) : Int) := by
  induction r with
  | nil =>
    intro k i x hd _ _ hk
    obtain ⟨k, rfl⟩ : ∃ m, k = m + 1 := ⟨k - 1, by omega⟩
    have : l.length ≤ i := List.drop_eq_nil_iff.1 hd
    simp only [spec_nuProduct.l0]
    rw [if_neg (by omega)]; simp [M.prod]
  | cons y r ih =>
    intro k i x hd hy hb hk
    obtain ⟨k, rfl⟩ : ∃ m, k = m + 1 := ⟨k - 1, by omega⟩
    obtain ⟨h2, h3, h4⟩ := getElem?_drop_cons hd
    have h2' : l[i]? = some (y : Int) := h2
    have hp := M.prod_pos (l := r) (fun z hz => hy z (by simp [hz]))
    rw [M.prod, ← Nat.mul_assoc] at hb ⊢
    have hxy : x * y < 2 ^ 62 := Nat.lt_of_le_of_lt (Nat.le_mul_of_pos_right _ hp) hb
    simp only [spec_nuProduct.l0]
    rw [if_pos (by omega), if_pos (by omega), if_pos (by omega), rd_nat h2', w64 (x := (i : Int) + 1) (by omega) (by omega), ← Int.natCast_mul, w64 (by omega) (by omega), show ((i : Int) + 1) = ((i + 1 : Nat) : Int) by omega]
    exact ih k (i + 1) (x * y) h3 (fun z hz => hy z (by simp [hz])) hb (by simp at hk; omega)
theorem nuProduct {r : List Nat} {k : Nat} (h0 : ∀ y ∈ r, 0 < y) (h1 : ∀ y ∈ r, y ≤ 20) (hl : r.length ≤ 8) (hk : 8 < k) : spec_nuProduct.f k (r.map Int.ofNat) = some (M.prod r : Int) := by
  have hb := prod_le8 h1 hl
  unfold spec_nuProduct.f
  have := nuProduct_l0 (l := r.map Int.ofNat) (by simp; omega) r k 0 1 (by simp) h0 (by omega) (by omega)
  simpa using this
theorem product_eq : ∀ (k : Nat) (l : List Int), impl_product.f k l = spec_nuProduct.f k l := by
  have h : ∀ (k : Nat) (a : Int) (l : List Int) (b c : Int), impl_product.l0 k a l b c = spec_nuProduct.l0 k a l b c := by
    intro k
    induction k with
    | zero => intros; rfl
    | succ k ih => intro a l b c; rw [impl_product.l0, spec_nuProduct.l0, ih]
  intro k l
  exact h k 1 l _ 0
theorem l1All_l0 {l : List Int} {lo hi : Int} (hl : l.length ≤ 2000000) (r : List Int) : ∀ (k i : Nat), l.drop i = r → r.length < k →
    spec_l1All.l0 k lo hi l (l.length : Int) (i : Int) = some (r.all fun x => decide (lo ≤ x ∧ x ≤ hi)) := by
  induction r with
  | nil =>
    intro k i hd hk
    obtain ⟨k, rfl⟩ : ∃ m, k = m + 1 := ⟨k - 1, by omega⟩
    have : l.length ≤ i := List.drop_eq_nil_iff.1 hd
    simp only [spec_l1All.l0]
    rw [if_neg (by omega)]; rfl
  | cons x r ih =>
    intro k i hd hk
    obtain ⟨k, rfl⟩ : ∃ m, k = m + 1 := ⟨k - 1, by omega⟩
    obtain ⟨h2, h3, h4⟩ := getElem?_drop_cons hd
    simp only [spec_l1All.l0, spec_l1In.f]
    rw [if_pos (by omega), if_pos (by omega), if_pos (by omega), rd_nat h2, w64 (x := (i : Int) + 1) (by omega) (by omega), show ((i : Int) + 1) = ((i + 1 : Nat) : Int) by omega]
    rw [ih k (i + 1) h3 (by simp at hk; omega)]
    by_cases q0 : x ≥ lo
    · have q0' : lo ≤ x := q0
      by_cases q1 : x ≤ hi
      · simp [q0', q1]
      · simp [q0', q1]
    · have q0' : ¬ lo ≤ x := q0
      simp [q0']
theorem l1All {l : List Int} {lo hi : Int} {k : Nat} (hl : l.length ≤ 2000000) (hk : l.length < k) : spec_l1All.f k l lo hi = some (l.all fun x => decide (lo ≤ x ∧ x ≤ hi)) := by
  unfold spec_l1All.f
  exact l1All_l0 hl l k 0 (by simp) hk
/-- limits -/
def lim (l : List Int) : Bool := decide (1 ≤ (l.length : Int) ∧ (l.length : Int) ≤ 8) && l.all fun x => decide (1 ≤ x ∧ x ≤ 20)
theorem nuLimits {l : List Int} {k : Nat} (hl : l.length ≤ 2000000) (hk : l.length < k) : spec_nuLimits.f k l = some (lim l) := by
  unfold spec_nuLimits.f spec_l1In.f lim
  rw [l1All hl hk]
  by_cases q0 : (l.length : Int) ≥ 1
  · have q0' : 1 ≤ (l.length : Int) := q0
    by_cases q1 : (l.length : Int) ≤ 8
    · simp [q0', q1]
    · simp [q0', q1]
  · have q0' : ¬ 1 ≤ (l.length : Int) := q0
    simp [q0']
theorem areLimits {l : List Int} : impl_areLimits.f l = some (lim l) := by
  have e : (!(l.any fun n => !(decide (1 ≤ n ∧ n ≤ 20)))) = l.all fun x => decide (1 ≤ x ∧ x ≤ 20) := by
    rw [List.any_eq_not_all_not]; simp
  unfold impl_areLimits.f lim
  rw [in_val, e]
  cases h : decide (1 ≤ (l.length : Int) ∧ (l.length : Int) ≤ 8) <;> simp
theorem lim_nats {l : List Int} (h : lim l = true) : ∃ ns : List Nat, l = ns.map Int.ofNat ∧ (1 ≤ ns.length ∧ ns.length ≤ 8) ∧ (∀ x ∈ ns, 0 < x) ∧ ∀ x ∈ ns, x ≤ 20 := by
  unfold lim at h
  rw [Bool.and_eq_true, List.all_eq_true] at h
  obtain ⟨h1, h2⟩ := h
  have h1' := of_decide_eq_true h1
  have h2' : ∀ x ∈ l, 1 ≤ x ∧ x ≤ 20 := fun x hx => of_decide_eq_true (h2 x hx)
  obtain ⟨ns, rfl⟩ := toNats (l := l) (fun x hx => by have := h2' x hx; omega)
  rw [List.length_map] at h1'
  refine ⟨ns, rfl, by omega, ?_, ?_⟩
  · intro x hx; have := h2' (Int.ofNat x) (List.mem_map.2 ⟨x, hx, rfl⟩); simp at this; omega
  · intro x hx; have := h2' (Int.ofNat x) (List.mem_map.2 ⟨x, hx, rfl⟩); simp at this; omega
theorem drop_map {ns : List Nat} {i : Nat} : (ns.map Int.ofNat).drop i = (ns.drop i).map Int.ofNat := by rw [List.map_drop]
theorem prod_drop {ns : List Nat} (h0 : ∀ y ∈ ns, 0 < y) (h1 : ∀ y ∈ ns, y ≤ 20) (hl : ns.length ≤ 8) (i k : Nat) (hk : 8 < k) : spec_nuProduct.f k ((ns.map Int.ofNat).drop i) = some (M.prod (ns.drop i) : Int) ∧ 0 < M.prod (ns.drop i) ∧ M.prod (ns.drop i) ≤ 25600000000 := by
  have g0 : ∀ y ∈ ns.drop i, 0 < y := fun y hy => h0 y (List.mem_of_mem_drop hy)
  have g1 : ∀ y ∈ ns.drop i, y ≤ 20 := fun y hy => h1 y (List.mem_of_mem_drop hy)
  have gl : (ns.drop i).length ≤ 8 := by rw [List.length_drop]; omega
  rw [drop_map]
  exact ⟨nuProduct g0 g1 gl hk, M.prod_pos g0, prod_le8 g1 gl⟩
theorem in_dec (n a b : Int) : spec_l1In.f n a b = some (decide (a ≤ n ∧ n ≤ b)) := by
  unfold spec_l1In.f
  by_cases q0 : n ≥ a
  · have q0' : a ≤ n := q0
    simp [q0']
  · have q0' : ¬ a ≤ n := q0
    simp [q0']
theorem fact_small : ∀ j, j < 11 → M.fact j ≤ 3628800 := by decide
theorem perm_below {s : Nat} {ns : List Nat} (h : M.Perm s ns) : ∀ d j, j + d = s → M.Perm j (M.below j ns)
  | 0, j, e => by
    have e' : j = s := by omega
    rw [e', M.below_all h.lt]; exact h
  | d + 1, j, e => by
    have := (perm_below h d (j + 1) (by omega)).below
    rwa [M.below_below (by omega)] at this
theorem srk_lt {s : Nat} {ns : List Nat} (h : M.Perm s ns) {j : Nat} (hj : j ≤ s) (hs : s ≤ 10) : M.srk j ns < M.fact j ∧ M.srk j ns < 3628800 := by
  have h1 := (M.sw_srk (perm_below h (s - j) j (by omega))).2
  rw [M.srk_below _ (Nat.le_refl j)] at h1
  have h2 := fact_small j (by omega)
  exact ⟨h1, by omega⟩
theorem idx_below_lt {s : Nat} {ns : List Nat} (h : M.Perm s ns) {j : Nat} (hj : j < s) : M.idx j (M.below (j + 1) ns) < j + 1 := by
  have hp := perm_below h (s - (j + 1)) (j + 1) (by omega)
  have := M.idx_lt hp.mem
  rwa [hp.len] at this
theorem cut_filter {x : Nat} : ∀ {l : List Nat}, x ∈ l → l.Nodup → l.take (M.idx x l) ++ l.drop (M.idx x l + 1) = l.filter (· ≠ x)
  | y :: r, h, hn => by
    obtain ⟨h1, h2⟩ := List.nodup_cons.1 hn
    rw [M.idx]
    by_cases e : y = x
    · subst e
      rw [if_pos rfl, List.filter_cons, if_neg (by simp)]
      have : r.filter (· ≠ y) = r := by
        rw [List.filter_eq_self]
        intro z hz
        have : z ≠ y := fun e => h1 (e ▸ hz)
        simp [this]
      rw [this]; rfl
    · rw [if_neg e, List.filter_cons, if_pos (by simpa using e)]
      rcases List.mem_cons.1 h with rfl | h
      · exact absurd rfl e
      · rw [← cut_filter h h2]; rfl
def ix (x : Int) : List Int → Nat
  | [] => 0
  | y :: r => if x = y then 0 else ix x r + 1
theorem ix_nat (x : Nat) : ∀ ns : List Nat, ix (x : Int) (ns.map Int.ofNat) = M.idx x ns
  | [] => rfl
  | y :: r => by
    rw [List.map_cons, ix, M.idx, ix_nat x r]
    by_cases e : y = x
    · subst e; rw [if_pos rfl]; exact if_pos rfl
    · rw [if_neg e, if_neg (by intro z; apply e; have z' : (x : Int) = (y : Int) := z; omega)]
theorem index_l0 {l : List Int} {x : Int} (hl : l.length ≤ 2000000) (r : List Int) : ∀ (k i : Nat), l.drop i = r → r.length < k →
    slices_Index_int_int.l0 k l x (l.length : Int) (i : Int) = some (if x ∈ r then ((i + ix x r : Nat) : Int) else -1) := by
  induction r with
  | nil =>
    intro k i hd hk
    obtain ⟨k, rfl⟩ : ∃ m, k = m + 1 := ⟨k - 1, by omega⟩
    have : l.length ≤ i := List.drop_eq_nil_iff.1 hd
    simp only [slices_Index_int_int.l0]
    rw [if_neg (by omega)]; simp
  | cons y r ih =>
    intro k i hd hk
    obtain ⟨k, rfl⟩ : ∃ m, k = m + 1 := ⟨k - 1, by omega⟩
    obtain ⟨h2, h3, h4⟩ := getElem?_drop_cons hd
    simp only [slices_Index_int_int.l0]
    rw [if_pos (by omega), if_pos (by omega), if_pos (by omega), rd_nat h2]
    by_cases e : x = y
    · subst e
      rw [if_pos rfl, if_pos (by simp), ix, if_pos rfl]; rfl
    · rw [if_neg e, w64 (by omega) (by omega), show ((i : Int) + 1) = ((i + 1 : Nat) : Int) by omega, ih k (i + 1) h3 (by simp at hk; omega), ix, if_neg e]
      by_cases hm : x ∈ r
      · rw [if_pos hm, if_pos (by simp [hm])]
        congr 1; omega
      · rw [if_neg hm, if_neg (by simp [hm, e])]
theorem index {l : List Int} {x : Int} {k : Nat} (hl : l.length ≤ 2000000) (hk : l.length < k) : slices_Index_int_int.f k l x = some (if x ∈ l then (ix x l : Int) else -1) := by
  unfold slices_Index_int_int.f
  have := index_l0 (x := x) hl l k 0 (by simp) hk
  simpa using this
theorem contains {l : List Int} {x : Int} {k : Nat} (hl : l.length ≤ 2000000) (hk : l.length < k) : slices_Contains_int_int.f k l x = some (decide (x ∈ l)) := by
  unfold slices_Contains_int_int.f
  rw [index hl hk]
  by_cases h : x ∈ l
  · rw [if_pos h]; simp [h]
  · rw [if_neg h]; simp [h]
theorem has_l0 {l : List Int} {x : Int} (hl : l.length ≤ 2000000) (r : List Int) : ∀ (k i : Nat), l.drop i = r → r.length < k →
    spec_l1Has.l0 k x l (l.length : Int) (i : Int) = some (decide (x ∈ r)) := by
  induction r with
  | nil =>
    intro k i hd hk
    obtain ⟨k, rfl⟩ : ∃ m, k = m + 1 := ⟨k - 1, by omega⟩
    have : l.length ≤ i := List.drop_eq_nil_iff.1 hd
    simp only [spec_l1Has.l0]
    rw [if_neg (by omega)]; simp
  | cons y r ih =>
    intro k i hd hk
    obtain ⟨k, rfl⟩ : ∃ m, k = m + 1 := ⟨k - 1, by omega⟩
    obtain ⟨h2, h3, h4⟩ := getElem?_drop_cons hd
    simp only [spec_l1Has.l0]
    rw [if_pos (by omega), if_pos (by omega), if_pos (by omega), rd_nat h2]
    by_cases e : y = x
    · subst e
      rw [if_pos rfl]; simp
    · have e' : ¬ x = y := fun z => e z.symm
      rw [if_neg e, w64 (by omega) (by omega), show ((i : Int) + 1) = ((i + 1 : Nat) : Int) by omega, ih k (i + 1) h3 (by simp at hk; omega)]
      simp [e']
theorem has {l : List Int} {x : Int} {k : Nat} (hl : l.length ≤ 2000000) (hk : l.length < k) : spec_l1Has.f k l x = some (decide (x ∈ l)) := by
  unfold spec_l1Has.f
  exact has_l0 hl l k 0 (by simp) hk
def rng (l : List Int) : Prop := ∀ x ∈ l, 0 ≤ x ∧ x ≤ (l.length : Int) - 1
theorem take_succ_nodup {l : List Int} {i : Nat} {x : Int} (h : l[i]? = some x) : (l.take (i + 1)).Nodup ↔ (l.take i).Nodup ∧ x ∉ l.take i := by
  rw [List.take_add_one, h]
  simp only [Option.toList_some]
  rw [List.nodup_append]
  constructor
  · rintro ⟨h1, _, h3⟩
    exact ⟨h1, fun hx => h3 x hx x (by simp) rfl⟩
  · rintro ⟨h1, h2⟩
    refine ⟨h1, by simp, ?_⟩
    intro a ha b hb
    have : b = x := by simpa using hb
    subst this
    rintro rfl
    exact h2 ha
theorem isPerm_l0 {l : List Int} (hl : l.length ≤ 10) (d : Nat) : ∀ (k i : Nat), i + d = l.length → d + 12 < k → (l.take i).Nodup → (∀ x ∈ l.take i, 0 ≤ x ∧ x ≤ (l.length : Int) - 1) → ∀ b : Bool, (b = true ↔ rng l ∧ l.Nodup) →
    impl_isPermutation.l0 k l l (l.length : Int) (i : Int) = some b := by
  induction d with
  | zero =>
    intro k i hi hk hn hr b hb
    obtain ⟨k, rfl⟩ : ∃ m, k = m + 1 := ⟨k - 1, by omega⟩
    rw [List.take_of_length_le (by omega)] at hn hr
    rw [impl_isPermutation.l0, if_neg (by omega), hb.2 ⟨hr, hn⟩]
  | succ d ih =>
    intro k i hi hk hn hr b hb
    obtain ⟨k, rfl⟩ : ∃ m, k = m + 1 := ⟨k - 1, by omega⟩
    have hx : l[i]? = some l[i] := List.getElem?_eq_getElem (by omega)
    have hmem : l[i] ∈ l := List.getElem_mem _
    rw [impl_isPermutation.l0, if_pos (by omega), if_pos (by omega), if_pos (by omega), rd_nat hx, in_val, w64 (by omega) (by omega)]
    simp only [Option.bind_some]
    by_cases q : 0 ≤ l[i] ∧ l[i] ≤ (l.length : Int) - 1
    · rw [decide_eq_true q, if_pos rfl, if_pos (by omega), Int.toNat_natCast, contains (by rw [List.length_take]; omega) (by rw [List.length_take]; omega)]
      simp only [Option.bind_some]
      by_cases q2 : l[i] ∈ l.take i
      · rw [decide_eq_true q2, if_pos rfl]
        have : b = false := by
          cases b with
          | false => rfl
          | true =>
            have h1 := (hb.1 rfl).2
            have h2 : (l.take (i + 1)).Nodup := h1.sublist (List.take_sublist _ _)
            exact absurd q2 ((take_succ_nodup hx).1 h2).2
        rw [this]
      · rw [decide_eq_false q2, if_neg (by decide), w64 (by omega) (by omega), show ((i : Int) + 1) = ((i + 1 : Nat) : Int) by omega]
        refine ih k (i + 1) (by omega) (by omega) ((take_succ_nodup hx).2 ⟨hn, q2⟩) ?_ b hb
        intro x hx'
        rw [List.take_add_one, hx] at hx'
        rcases List.mem_append.1 hx' with hx' | hx'
        · exact hr x hx'
        · have : x = l[i] := by simpa using hx'
          subst this; exact q
    · rw [decide_eq_false q, if_neg (by decide)]
      have : b = false := by
        cases b with
        | false => rfl
        | true => exact absurd ((hb.1 rfl).1 _ hmem) q
      rw [this]
theorem rng_nats {l : List Int} (hr : rng l) (hn : l.Nodup) : ∃ ns : List Nat, l = ns.map Int.ofNat ∧ M.Perm ns.length ns := by
  obtain ⟨ns, rfl⟩ := toNats (l := l) (fun x hx => (hr x hx).1)
  refine ⟨ns, rfl, rfl, ?_, ?_⟩
  · intro x hx
    have := (hr (Int.ofNat x) (List.mem_map.2 ⟨x, hx, rfl⟩)).2
    rw [List.length_map] at this
    have h2 : (x : Int) ≤ (ns.length : Int) - 1 := this
    omega
  · rw [List.nodup_iff_pairwise_ne, List.pairwise_map] at hn
    rw [List.nodup_iff_pairwise_ne]
    exact hn.imp (fun {a b} h e => h (by rw [e]))
theorem swapRank : ∀ (s k : Nat) (ns : List Nat), s ≤ 10 → M.Perm s ns → 12 + s < k → impl_swapRank.f k (ns.map Int.ofNat) = some (M.srk s ns : Int)
  | 0, k, ns, _, h, hk => by
    obtain ⟨k, rfl⟩ : ∃ m, k = m + 1 := ⟨k - 1, by omega⟩
    rw [impl_swapRank.f, if_pos (by rw [List.length_map, h.len])]; rfl
  | s + 1, k, ns, hs, h, hk => by
    obtain ⟨k, rfl⟩ : ∃ m, k = m + 1 := ⟨k - 1, by omega⟩
    have hlen : (ns.map Int.ofNat).length = s + 1 := by rw [List.length_map, h.len]
    have hm := h.mem
    have hmI : (s : Int) ∈ ns.map Int.ofNat := List.mem_map.2 ⟨s, hm, rfl⟩
    have hi := M.idx_lt hm
    rw [h.len] at hi
    have ih := swapRank s k (M.below s ns) (by omega) h.below (by omega)
    have hcut : cutAt (ns.map Int.ofNat) (M.idx s ns) = (M.below s ns).map Int.ofNat := by
      unfold cutAt
      rw [← List.map_take, ← List.map_drop, ← List.map_append, cut_filter hm h.nodup, h.filter_ne]
    obtain ⟨hb1, hb2⟩ := srk_lt h (j := s) (by omega) hs
    rw [M.srk_below _ (Nat.le_refl s)] at ih
    have ew : Aside0 (wrap64 (((s + 1 : Nat) : Int) - 1) = (s : Int)) := ⟨by rw [w64 (by omega) (by omega)]; omega⟩
    rw [impl_swapRank.f, hlen, if_neg (by omega), ew.out, index (by omega) (by omega), if_pos hmI, ix_nat]
    simp only [Option.bind_some]
    rw [if_pos (by omega), if_pos (by omega), if_pos (by omega), Int.toNat_natCast, hcut, ih]
    simp only [Option.bind_some]
    rw [M.srk, M.below_all h.lt]
    unfold M.rst
    generalize M.srk s ns = R at *
    generalize M.idx s ns = a at *
    have hR : R * (s + 1) ≤ 3628800 * 10 := Nat.mul_le_mul (by omega) (by omega)
    have ht : Int.tmod (R : Int) 2 = ((R % 2 : Nat) : Int) := by rw [Int.tmod_eq_emod_of_nonneg (by omega)]; omega
    have em : Aside0 (wrap64 ((R : Int) * ((s + 1 : Nat) : Int)) = ((R * (s + 1) : Nat) : Int)) := ⟨by rw [← Int.natCast_mul, w64 (by omega) (by omega)]⟩
    rw [ht, em.out]
    generalize R * (s + 1) = m at *
    by_cases q : R % 2 = 0
    · rw [if_pos (by omega), if_pos q, w64 (x := (s : Int) - (a : Int)) (by omega) (by omega), w64 (by omega) (by omega)]
      congr 1; omega
    · rw [if_neg (by omega), if_neg q, w64 (by omega) (by omega)]
      congr 1
/-- what one number adds -/
def stp (R c a : Nat) : Nat := R * (c + 1) + (if R % 2 = 0 then c - a else a)
theorem l2_at {ns : List Nat} {c R : Nat} (hl : ns.length ≤ 10) (hc : c < 10) (hR : R < 3628800) (s : Int) (r : List Nat) : ∀ (K K' i a : Nat), ns.drop i = r → c ∈ r → K = K' + M.idx c r + 1 → a + M.idx c (M.below (c + 1) r) ≤ c →
    spec_RankOfSwapped.l2 K (ns.map Int.ofNat) s (R : Int) ((c + 1 : Nat) : Int) (a : Int) (ns.map Int.ofNat) (ns.length : Int) (i : Int) = spec_RankOfSwapped.l1 K' (ns.map Int.ofNat) s ((stp R c (a + M.idx c (M.below (c + 1) r)) : Nat) : Int) ((c + 2 : Nat) : Int) := by
  induction r with
  | nil => intro K K' i a _ h _ _; simp at h
  | cons y r ih =>
    intro K K' i a hd hm hK ha
    obtain ⟨K, rfl⟩ : ∃ m, K = m + 1 := ⟨K - 1, by omega⟩
    obtain ⟨h2, h3, h4⟩ := getElem?_drop_cons hd
    have h2' : (ns.map Int.ofNat)[i]? = some (y : Int) := by rw [List.getElem?_map, h2]; rfl
    have ew : Aside0 (wrap64 (((c + 1 : Nat) : Int) - 1) = (c : Int)) := ⟨by rw [w64 (by omega) (by omega)]; omega⟩
    have ep : Aside0 (wrap64 (((c + 1 : Nat) : Int) + 1) = ((c + 2 : Nat) : Int)) := ⟨by rw [w64 (by omega) (by omega)]; omega⟩
    have ei : Aside0 (wrap64 ((i : Int) + 1) = ((i + 1 : Nat) : Int)) := ⟨by rw [w64 (by omega) (by omega)]; omega⟩
    have ea : Aside0 (a < 10 → wrap64 ((a : Int) + 1) = ((a + 1 : Nat) : Int)) := ⟨fun _ => by rw [w64 (by omega) (by omega)]; omega⟩
    have hRm : R * (c + 1) ≤ 3628800 * 10 := Nat.mul_le_mul (by omega) (by omega)
    have ht : Int.tmod (R : Int) 2 = ((R % 2 : Nat) : Int) := by rw [Int.tmod_eq_emod_of_nonneg (by omega)]; omega
    have em : Aside0 (wrap64 ((R : Int) * ((c + 1 : Nat) : Int)) = ((R * (c + 1) : Nat) : Int)) := ⟨by rw [← Int.natCast_mul, w64 (by omega) (by omega)]⟩
    rw [spec_RankOfSwapped.l2, if_pos (by omega), if_pos (by omega), if_pos (by rw [List.length_map]; omega), rd_nat h2', ew.out, ei.out]
    by_cases e : y = c
    · subst e
      have hz : M.idx y (M.below (y + 1) (y :: r)) = 0 := by
        have : M.below (y + 1) (y :: r) = y :: M.below (y + 1) r := by unfold M.below; rw [List.filter_cons, if_pos (by simp)]
        rw [this, M.idx, if_pos rfl]
      rw [hz] at ha ⊢
      rw [M.idx, if_pos rfl] at hK
      have hK' : K = K' := by omega
      subst hK'
      rw [if_pos rfl, ht, em.out, ep.out]
      unfold stp
      rw [Nat.add_zero]
      generalize R * (y + 1) = m at *
      by_cases q : R % 2 = 0
      · rw [if_pos (by omega), if_pos q, w64 (x := (y : Int) - (a : Int)) (by omega) (by omega), w64 (by omega) (by omega)]
        congr 1; omega
      · rw [if_neg (by omega), if_neg q, w64 (by omega) (by omega)]
        congr 1
    · rcases List.mem_cons.1 hm with rfl | hm
      · exact absurd rfl e
      rw [M.idx, if_neg e] at hK
      rw [if_neg (by omega)]
      by_cases q : y < c + 1
      · have hb : M.below (c + 1) (y :: r) = y :: M.below (c + 1) r := by unfold M.below; rw [List.filter_cons, if_pos (by simpa using q)]
        rw [hb, M.idx, if_neg e] at ha ⊢
        rw [if_pos (by omega), ea.out (by omega)]
        have := ih K K' (i + 1) (a + 1) h3 hm (by omega) (by omega)
        rw [this, show a + 1 + M.idx c (M.below (c + 1) r) = a + (M.idx c (M.below (c + 1) r) + 1) by omega]
      · have hb : M.below (c + 1) (y :: r) = M.below (c + 1) r := by unfold M.below; rw [List.filter_cons, if_neg (by simpa using q)]
        rw [hb] at ha ⊢
        rw [if_neg (by omega)]
        exact ih K K' (i + 1) a h3 hm (by omega) ha
theorem l1_at {ns : List Nat} {s : Nat} (hs : s ≤ 10) (h : M.Perm s ns) (d : Nat) : ∀ (K j : Nat), j + d = s → d * 14 + 2 < K →
    spec_RankOfSwapped.l1 K (ns.map Int.ofNat) (s : Int) (M.srk j ns : Int) ((j + 1 : Nat) : Int) = some ((M.srk s ns : Int), true) := by
  induction d with
  | zero =>
    intro K j hj hK
    obtain ⟨K, rfl⟩ : ∃ m, K = m + 1 := ⟨K - 1, by omega⟩
    have : j = s := by omega
    subst this
    rw [spec_RankOfSwapped.l1, if_neg (by omega)]
  | succ d ih =>
    intro K j hj hK
    obtain ⟨K, rfl⟩ : ∃ m, K = m + 1 := ⟨K - 1, by omega⟩
    have hmem : j ∈ ns := by
      have := (perm_below h (s - (j + 1)) (j + 1) (by omega)).mem
      exact (List.mem_filter.1 this).1
    have hi := M.idx_lt hmem
    rw [h.len] at hi
    obtain ⟨hb1, hb2⟩ := srk_lt h (j := j) (by omega) hs
    have hib := idx_below_lt h (j := j) (by omega)
    obtain ⟨K', hK'⟩ : ∃ K', K = K' + M.idx j ns + 1 := ⟨K - M.idx j ns - 1, by omega⟩
    have e := l2_at (ns := ns) (c := j) (R := M.srk j ns) (by rw [h.len]; omega) (by omega) hb2 (s : Int) ns K K' 0 0 (by simp) hmem hK' (by omega)
    rw [h.len, Nat.zero_add] at e
    have hr : M.srk (j + 1) ns = stp (M.srk j ns) j (M.idx j (M.below (j + 1) ns)) := by rw [M.srk]; rfl
    rw [← hr] at e
    have hl2 : ((ns.map Int.ofNat).length : Int) = (s : Int) := by rw [List.length_map, h.len]
    rw [spec_RankOfSwapped.l1, if_pos (by omega), hl2]
    exact e.trans (ih K' (j + 1) (by omega) (by omega))
theorem has_l0_ok {l : List Int} {s : Int} (hl : l.length ≤ 10) (hn : l.Nodup) (d : Nat) : ∀ (i k K : Nat), K = k + d + 1 → i + d = l.length → 12 < k →
    spec_RankOfSwapped.l0 K l s l (l.length : Int) (i : Int) = spec_RankOfSwapped.l1 k l s 0 1 := by
  induction d with
  | zero =>
    intro i k K hK hi hk
    subst hK
    rw [Nat.add_zero, spec_RankOfSwapped.l0, if_neg (by omega)]
  | succ d ih =>
    intro i k K hK hi hk
    obtain ⟨K, rfl⟩ : ∃ m, K = m + 1 := ⟨K - 1, by omega⟩
    have hx : l[i]? = some l[i] := List.getElem?_eq_getElem (by omega)
    have h2 : (l.take (i + 1)).Nodup := hn.sublist (List.take_sublist _ _)
    have q := ((take_succ_nodup hx).1 h2).2
    have hh : spec_l1Has.f K (l.take i) l[i] = some false := by rw [has (by rw [List.length_take]; omega) (by rw [List.length_take]; omega), decide_eq_false q]
    rw [spec_RankOfSwapped.l0, if_pos (by omega), if_pos (by omega), if_pos (by omega), if_pos (by omega), rd_nat hx, Int.toNat_natCast, hh]
    simp only [Option.bind_some, Bool.false_eq_true, if_false]
    rw [w64 (by omega) (by omega), show ((i : Int) + 1) = ((i + 1 : Nat) : Int) by omega]
    exact ih (i + 1) k K (by omega) (by omega) hk
theorem has_l0_bad {l : List Int} {s : Int} (hl : l.length ≤ 10) (hn : ¬ l.Nodup) (d : Nat) : ∀ (i K : Nat), i + d = l.length → d + 12 < K → (l.take i).Nodup →
    spec_RankOfSwapped.l0 K l s l (l.length : Int) (i : Int) = some (0, false) := by
  induction d with
  | zero =>
    intro i K hi hK ht
    rw [List.take_of_length_le (by omega)] at ht
    exact absurd ht hn
  | succ d ih =>
    intro i K hi hK ht
    obtain ⟨K, rfl⟩ : ∃ m, K = m + 1 := ⟨K - 1, by omega⟩
    have hx : l[i]? = some l[i] := List.getElem?_eq_getElem (by omega)
    have hh : spec_l1Has.f K (l.take i) l[i] = some (decide (l[i] ∈ l.take i)) := has (by rw [List.length_take]; omega) (by rw [List.length_take]; omega)
    rw [spec_RankOfSwapped.l0, if_pos (by omega), if_pos (by omega), if_pos (by omega), if_pos (by omega), rd_nat hx, Int.toNat_natCast, hh]
    simp only [Option.bind_some]
    by_cases q : l[i] ∈ l.take i
    · rw [decide_eq_true q, if_pos rfl]
    · rw [decide_eq_false q, if_neg (by decide), w64 (by omega) (by omega), show ((i : Int) + 1) = ((i + 1 : Nat) : Int) by omega]
      exact ih (i + 1) K (by omega) (by omega) ((take_succ_nodup hx).2 ⟨ht, q⟩)
theorem swapped_eq : ∀ (k : Nat) (a0 a1 : Int), impl_swapped.f k a0 a1 = spec_nuSwapped.f k a0 a1
  | 0, _, _ => rfl
  | k + 1, a0, a1 => by
    rw [impl_swapped.f, spec_nuSwapped.f, swapped_eq k]
    have e : swAtI a0 a1 = swAt a0 a1 := rfl
    rw [e]
    simp only [List.append_assoc]
theorem swAt_nat (s r : Nat) (hs : s < 100) (hr : r < 4000000000000000000) : swAt ((s + 1 : Nat) : Int) (r : Int) = (M.spl s r : Int) := by
  have h1 : Int.tdiv (r : Int) ((s + 1 : Nat) : Int) = ((r / (s + 1) : Nat) : Int) := (Int.ofNat_tdiv _ _).symm
  have h2 : Int.tmod (r : Int) ((s + 1 : Nat) : Int) = ((r % (s + 1) : Nat) : Int) := (Int.ofNat_tmod _ _).symm
  have h3 : r / (s + 1) ≤ r := Nat.div_le_self _ _
  have h4 := M.modlt r s
  unfold swAt M.spl
  obtain ⟨q, hq⟩ : ∃ q, r / (s + 1) = q := ⟨_, rfl⟩
  obtain ⟨m, hm⟩ : ∃ m, r % (s + 1) = m := ⟨_, rfl⟩
  rw [h1, h2, hq, hm]
  rw [hq] at h3
  rw [hm] at h4
  clear h1 h2 hq hm
  have h5 : Int.tmod (q : Int) 2 = ((q % 2 : Nat) : Int) := (Int.ofNat_tmod q 2).symm
  rw [w64 (by omega) (by omega), h5]
  by_cases c : q % 2 = 0
  · rw [if_pos (by omega), if_pos c, show (((s + 1 : Nat) : Int) - 1) = (s : Int) by omega, w64 (x := (s : Int)) (by omega) (by omega), w64 (by omega) (by omega)]
    omega
  · rw [if_neg (by omega), if_neg c]
theorem nuSwapped : ∀ (s r k : Nat), s < 100 → r < 4000000000000000000 → s < k → spec_nuSwapped.f k (s : Int) (r : Int) = some ((M.sw s r).map Int.ofNat)
  | 0, r, k, _, _, hk => by
    obtain ⟨k, rfl⟩ : ∃ m, k = m + 1 := ⟨k - 1, by omega⟩
    rw [spec_nuSwapped.f, if_pos (show ((0 : Nat) : Int) = 0 from rfl)]; rfl
  | s + 1, r, k, hs, hr, hk => by
    obtain ⟨k, rfl⟩ : ∃ m, k = m + 1 := ⟨k - 1, by omega⟩
    have h3 : r / (s + 1) ≤ r := Nat.div_le_self _ _
    have e1 : wrap64 (((s + 1 : Nat) : Int) - 1) = (s : Int) := by rw [w64 (by omega) (by omega)]; omega
    have e2 : wrap64 (Int.tdiv (r : Int) ((s + 1 : Nat) : Int)) = ((r / (s + 1) : Nat) : Int) := by
      rw [show Int.tdiv (r : Int) ((s + 1 : Nat) : Int) = ((r / (s + 1) : Nat) : Int) from (Int.ofNat_tdiv _ _).symm]
      generalize r / (s + 1) = q at h3 ⊢
      exact w64 (by omega) (by omega)
    have e3 := nuSwapped s (r / (s + 1)) k (by omega) (by generalize r / (s + 1) = q at h3 ⊢; omega) (by omega)
    rw [spec_nuSwapped.f, if_neg (by omega), swAt_nat s r (by omega) hr, e1, e2, e3]
    have h5 := M.spl_le s r
    simp only [Option.bind_some, List.length_map, M.sw_length, Int.toNat_natCast]
    rw [if_pos (by omega), if_pos (by omega), if_pos (by omega), M.sw, M.ins]
    simp [List.map_take, List.map_drop]
theorem up_some {α : Type} {f : Nat → Option α} (h : ∀ k, LeO (f k) (f (k + 1))) {m : Nat} {v : α} (hm : f m = some v) : ∀ d, f (m + d) = some v
  | 0 => hm
  | d + 1 => h (m + d) _ (up_some h hm d)
theorem up_to {α : Type} {f : Nat → Option α} (h : ∀ k, LeO (f k) (f (k + 1))) {m k : Nat} {v : α} (hm : f m = some v) (hk : m ≤ k) : f k = some v := by
  have := up_some h hm (k - m)
  rwa [show m + (k - m) = k by omega] at this
theorem orders12 : ∀ s : Nat, s < 11 → impl_orders.f 12 (s : Int) = some (M.fact s : Int) := by decide +kernel
theorem lists12 : ∀ s : Nat, s < 11 → spec_nuLists.f 12 (s : Int) = some (M.fact s : Int) := by decide +kernel
theorem orders {s k : Nat} (hs : s < 11) (hk : 12 ≤ k) : impl_orders.f k (s : Int) = some (M.fact s : Int) := up_to (fun k => impl_orders.mono (s : Int) k) (orders12 s hs) hk
theorem lists {s k : Nat} (hs : s < 11) (hk : 12 ≤ k) : spec_nuLists.f k (s : Int) = some (M.fact s : Int) := up_to (fun k => spec_nuLists.mono (s : Int) k) (lists12 s hs) hk
theorem fact_bound {s : Nat} (hs : s < 11) : M.fact s ≤ 3628800 := fact_small s hs
/-- the guards of both functions -/
theorem isSwapped_val {a0 a1 : Int} {k : Nat} (hk : 12 ≤ k) (b : Bool) (hb : b = true ↔ ∃ s r : Nat, a0 = s ∧ a1 = r ∧ 1 ≤ s ∧ s ≤ 10 ∧ r < M.fact s) : impl_isSwapped.f k a0 a1 = some b := by
  unfold impl_isSwapped.f
  rw [in_val]
  by_cases h : 1 ≤ a0 ∧ a0 ≤ 10
  · obtain ⟨s, rfl⟩ := Int.eq_ofNat_of_zero_le (show 0 ≤ a0 by omega)
    rw [decide_eq_true h]
    have h1 := fact_bound (s := s) (by omega)
    simp only [Option.bind_some, if_true]
    rw [orders (by omega) hk]
    simp only [Option.bind_some]
    rw [w64 (by omega) (by omega), in_val]
    simp only [Option.bind_some]
    congr 1
    rw [Bool.eq_iff_iff, hb, decide_eq_true_iff]
    constructor
    · rintro ⟨h2, h3⟩
      obtain ⟨r, rfl⟩ := Int.eq_ofNat_of_zero_le h2
      exact ⟨s, r, rfl, rfl, by omega, by omega, by omega⟩
    · rintro ⟨s', r, h2, rfl, h3, h4, h5⟩
      have : s' = s := by omega
      subst this
      omega
  · rw [decide_eq_false h]
    simp only [Option.bind_some, Bool.false_eq_true, if_false]
    congr 1
    symm
    rw [Bool.eq_false_iff]
    intro hh
    obtain ⟨s, r, rfl, rfl, h2, h3, _⟩ := hb.1 hh
    exact h (by omega)
theorem mixedAt_eq : ∀ (k : Nat) (a : List Int) (b : Int) (c : List Int) (d e : Int), impl_MixedAt.l0 k a b c d e = spec_MixedAt.l0 k a b c d e := by
  intro k
  induction k with
  | zero => intros; rfl
  | succ k ih =>
    intro a b c d e
    rw [impl_MixedAt.l0, spec_MixedAt.l0]
    simp only [product_eq, ih, Option.bind_some]
    split
    · split
      · split
        · congr 1
          funext t
          by_cases q1 : t = 0
          · simp only [q1, if_true]
          · by_cases q2 : (Int.tmod (wrap64 (Int.tdiv b t)) 2) = 1
            · by_cases q3 : c.length < 17592186044416
              · simp only [q1, q2, q3, if_true, if_false]
              · simp only [q1, q2, q3, if_true, if_false]
            · by_cases q3 : c.length < 17592186044416
              · simp only [q1, q2, q3, if_true, if_false]
              · simp only [q1, q2, q3, if_false]
        · rfl
      · rfl
    · rfl
/-- a digit that fits its limit -/
def okd (l0 l1 : List Int) (j : Nat) : Prop := 0 ≤ rd l1 (j : Int) ∧ rd l1 (j : Int) ≤ rd l0 (j : Int) - 1
theorem drop_at {ns : List Nat} {i : Nat} (h : i < ns.length) : ns.drop i = ns[i] :: ns.drop (i + 1) := List.drop_eq_getElem_cons h
theorem rank_bad {ns : List Nat} {l : List Int} (h0 : ∀ y ∈ ns, 0 < y) (h1 : ∀ y ∈ ns, y ≤ 20) (hl : ns.length ≤ 8) (hll : l.length = ns.length) (i : Nat) : ∀ (rank sz x8 : Int) (k : Nat), x8 = (i : Int) - 1 → i ≤ ns.length → (¬ ∀ j, j < i → okd (ns.map Int.ofNat) l j) → i < k →
    impl_RankOfMixed.l0 k (ns.map Int.ofNat) l rank sz x8 = some (0, false) := by
  induction i with
  | zero => intro rank sz x8 k _ _ hg _; exact absurd (fun j hj => absurd hj (Nat.not_lt_zero j)) hg
  | succ i ih =>
    intro rank sz x8 k hx hi hg hk
    have hx8 : x8 = (i : Int) := by omega
    subst hx8
    obtain ⟨k, rfl⟩ : ∃ m, k = m + 1 := ⟨k - 1, by omega⟩
    have hin : ns[i] ∈ ns := List.getElem_mem _
    have hno := h1 _ hin
    have hr : rd (ns.map Int.ofNat) (i : Int) = (ns[i] : Int) := rd_nat (by rw [List.getElem?_map, List.getElem?_eq_getElem (by omega)]; rfl)
    have em : Aside0 (wrap64 ((i : Int) - 1) = (i : Int) - 1) := ⟨w64 (by omega) (by omega)⟩
    rw [impl_RankOfMixed.l0, if_pos (by omega), if_pos (by omega), if_pos (by omega), if_pos (by rw [List.length_map]; omega), hr, in_val, w64 (x := (ns[i] : Int) - 1) (by omega) (by omega)]
    simp only [Option.bind_some]
    by_cases hb : 0 ≤ rd l (i : Int) ∧ rd l (i : Int) ≤ (ns[i] : Int) - 1
    · have hg' : ¬ ∀ j, j < i → okd (ns.map Int.ofNat) l j := fun hh => hg fun j hj => by
        by_cases e : j = i
        · subst e; unfold okd; rw [hr]; exact hb
        · exact hh j (by omega)
      rw [decide_eq_true hb, if_pos rfl]
      split
      · exact ih _ _ _ k em.out (by omega) hg' (by omega)
      · exact ih _ _ _ k em.out (by omega) hg' (by omega)
    · rw [decide_eq_false hb]; rfl
theorem rank_l0 {ns : List Nat} {l : List Int} (h1 : ∀ y ∈ ns, y ≤ 20) (hl : ns.length ≤ 8) (hll : l.length = ns.length) {X : Int} (hX : Aside0 (wrap64 ((l.length : Int) - 1) = X)) (d : Nat) : ∀ (i k K : Nat), K = k + d + 1 → i + d = ns.length → (∀ j, i ≤ j → j < ns.length → okd (ns.map Int.ofNat) l j) →
    spec_RankOfMixed.l0 K (ns.map Int.ofNat) l l (l.length : Int) (i : Int) = spec_RankOfMixed.l1 k (ns.map Int.ofNat) l 0 X := by
  induction d with
  | zero =>
    intro i k K hK hi hg
    subst hK
    rw [Nat.add_zero, spec_RankOfMixed.l0, if_neg (by omega), hX.out]
  | succ d ih =>
    intro i k K hK hi hg
    obtain ⟨K, rfl⟩ : ∃ m, K = m + 1 := ⟨K - 1, by omega⟩
    have hin : ns[i] ∈ ns := List.getElem_mem _
    have hno := h1 _ hin
    have hr : rd (ns.map Int.ofNat) (i : Int) = (ns[i] : Int) := rd_nat (by rw [List.getElem?_map, List.getElem?_eq_getElem (by omega)]; rfl)
    have hgi := hg i (by omega) (by omega)
    unfold okd at hgi
    rw [hr] at hgi
    have hin' : spec_l1In.f (rd l (i : Int)) 0 (wrap64 ((ns[i] : Int) - 1)) = some true := by
      rw [in_dec, w64 (by omega) (by omega), decide_eq_true hgi]
    rw [spec_RankOfMixed.l0, if_pos (by omega), if_pos (by omega), if_pos (by omega), if_pos (by rw [List.length_map]; omega), hr, hin']
    simp only [Option.bind_some, if_true]
    rw [w64 (x := (i : Int) + 1) (by omega) (by omega), show ((i : Int) + 1) = ((i + 1 : Nat) : Int) by omega]
    exact ih (i + 1) k K (by omega) (by omega) (fun j hj => hg j (by omega))
theorem rank_l0_bad {ns : List Nat} {l : List Int} (h1 : ∀ y ∈ ns, y ≤ 20) (hl : ns.length ≤ 8) (hll : l.length = ns.length) (d : Nat) : ∀ (i k : Nat), i + d = ns.length → (¬ ∀ j, i ≤ j → j < ns.length → okd (ns.map Int.ofNat) l j) → d < k →
    spec_RankOfMixed.l0 k (ns.map Int.ofNat) l l (l.length : Int) (i : Int) = some (0, false) := by
  induction d with
  | zero =>
    intro i k hi hg hk
    exact absurd (fun j hj hj2 => absurd hj2 (by omega)) hg
  | succ d ih =>
    intro i k hi hg hk
    obtain ⟨k, rfl⟩ : ∃ m, k = m + 1 := ⟨k - 1, by omega⟩
    have hin : ns[i] ∈ ns := List.getElem_mem _
    have hno := h1 _ hin
    have hr : rd (ns.map Int.ofNat) (i : Int) = (ns[i] : Int) := rd_nat (by rw [List.getElem?_map, List.getElem?_eq_getElem (by omega)]; rfl)
    rw [spec_RankOfMixed.l0, if_pos (by omega), if_pos (by omega), if_pos (by omega), if_pos (by rw [List.length_map]; omega), hr, in_dec, w64 (x := (ns[i] : Int) - 1) (by omega) (by omega)]
    simp only [Option.bind_some]
    by_cases hb : 0 ≤ rd l (i : Int) ∧ rd l (i : Int) ≤ (ns[i] : Int) - 1
    · rw [decide_eq_true hb, if_pos rfl, w64 (x := (i : Int) + 1) (by omega) (by omega), show ((i : Int) + 1) = ((i + 1 : Nat) : Int) by omega]
      refine ih (i + 1) k (by omega) (fun hh => hg fun j hj hj2 => ?_) (by omega)
      by_cases e : j = i
      · subst e; unfold okd; rw [hr]; exact hb
      · exact hh j (by omega) hj2
    · rw [decide_eq_false hb]; rfl
theorem mapInj : ∀ {a b : List Nat}, a.map Int.ofNat = b.map Int.ofNat → a = b
  | [], [], _ => rfl
  | [], _ :: _, h => by simp at h
  | _ :: _, [], h => by simp at h
  | x :: a, y :: b, h => by
    simp only [List.map_cons, List.cons.injEq] at h
    have : x = y := Int.ofNat.inj h.1
    rw [this, mapInj h.2]
theorem mixVal_l0 {ns : List Nat} (h0 : ∀ y ∈ ns, 0 < y) (h1 : ∀ y ∈ ns, y ≤ 20) (hl : ns.length ≤ 8) (d : Nat) : ∀ (i n k : Nat) (x6 : List Int), i + d = ns.length → x6.length ≤ i → n < M.prod (ns.drop i) → d + 8 < k →
    spec_MixedAt.l0 k (ns.map Int.ofNat) (n : Int) x6 (ns.length : Int) (i : Int) = some (x6 ++ (M.mix (ns.drop i) n).map Int.ofNat, true) := by
  induction d with
  | zero =>
    intro i n k x6 hi hx hn hk
    obtain ⟨k, rfl⟩ : ∃ m, k = m + 1 := ⟨k - 1, by omega⟩
    rw [spec_MixedAt.l0, if_neg (by omega), List.drop_of_length_le (by omega)]
    simp [M.mix]
  | succ d ih =>
    intro i n k x6 hi hx hn hk
    obtain ⟨k, rfl⟩ : ∃ m, k = m + 1 := ⟨k - 1, by omega⟩
    obtain ⟨p1, p2, p3⟩ := prod_drop h0 h1 hl (i + 1) k (by omega)
    have hin : ns[i] ∈ ns := List.getElem_mem _
    have hno := h1 _ hin
    rw [drop_at (i := i) (by omega), M.prod] at hn
    rw [drop_at (i := i) (by omega), M.mix]
    have ih := ih (i + 1)
    generalize M.prod (ns.drop (i + 1)) = P at *
    have hd : n / P < ns[i] := Nat.div_lt_of_lt_mul (by rw [Nat.mul_comm]; exact hn)
    have hm : n % P < P := Nat.mod_lt _ p2
    have hd20 : n / P ≤ 20 := by omega
    have ed : Aside0 (wrap64 (Int.tdiv (n : Int) (P : Int)) = ((n / P : Nat) : Int)) := ⟨by rw [← Int.ofNat_tdiv]; generalize n / P = q at *; exact w64 (by omega) (by omega)⟩
    have em : Aside0 (Int.tmod (n : Int) (P : Int) = ((n % P : Nat) : Int)) := ⟨(Int.ofNat_tmod _ _).symm⟩
    have e2 : Aside0 (Int.tmod ((n / P : Nat) : Int) 2 = ((n / P % 2 : Nat) : Int)) := ⟨(Int.ofNat_tmod _ _).symm⟩
    have et : Aside0 (wrap64 ((wrap64 ((P : Int) - 1)) - ((n % P : Nat) : Int)) = ((P - 1 - n % P : Nat) : Int)) := ⟨by rw [w64 (x := (P : Int) - 1) (by omega) (by omega), w64 (by omega) (by omega)]; omega⟩
    have hP0 : ¬ (P : Int) = 0 := by omega
    rw [spec_MixedAt.l0, if_pos (by omega), w64 (x := (i : Int) + 1) (by omega) (by omega), if_pos (by omega), if_pos (by rw [List.length_map]; omega), show ((i : Int) + 1) = ((i + 1 : Nat) : Int) by omega, Int.toNat_natCast, p1]
    simp only [Option.bind_some]
    rw [if_neg hP0, ed.out, em.out, e2.out, et.out]
    by_cases q : n / P % 2 = 1
    · have tt : M.turn P (n / P) (n % P) = P - 1 - n % P := by unfold M.turn; rw [if_pos q]
      rw [if_pos (by omega), if_pos (by omega), ih (P - 1 - n % P) k _ (by omega) (by simp; omega) (by omega) (by omega), tt]
      simp
    · have tt : M.turn P (n / P) (n % P) = n % P := by unfold M.turn; rw [if_neg q]
      rw [if_neg (by omega), if_pos (by omega), ih (n % P) k _ (by omega) (by simp; omega) (by omega) (by omega), tt]
      simp
theorem mixed_head {ns : List Nat} (hn : 1 ≤ ns.length ∧ ns.length ≤ 8) (h0 : ∀ y ∈ ns, 0 < y) (h1 : ∀ y ∈ ns, y ≤ 20) (hq : lim (ns.map Int.ofNat) = true) (a1 : Int) {k : Nat} (hk : 60 < k) : spec_MixedAt.f k (ns.map Int.ofNat) a1 = spec_MixedAt.j0 k (ns.map Int.ofNat) a1 (!(decide (0 ≤ a1 ∧ a1 ≤ (M.prod ns : Int) - 1))) ∧ impl_MixedAt.f k (ns.map Int.ofNat) a1 = impl_MixedAt.j0 k (ns.map Int.ofNat) a1 (!(decide (0 ≤ a1 ∧ a1 ≤ (M.prod ns : Int) - 1))) := by
  obtain ⟨p1, p2, p3⟩ := prod_drop h0 h1 hn.2 0 k (by omega)
  rw [List.drop_zero] at p1
  rw [List.drop_zero] at p1 p2 p3
  have e : Aside0 (wrap64 ((M.prod ns : Int) - 1) = (M.prod ns : Int) - 1) := ⟨w64 (by omega) (by omega)⟩
  unfold spec_MixedAt.f impl_MixedAt.f
  rw [nuLimits (by rw [List.length_map]; omega) (by rw [List.length_map]; omega), areLimits, hq, product_eq, p1]
  simp only [Option.bind_some, if_true]
  rw [in_val, e.out]
  unfold spec_l1In.f
  simp only [Option.bind_some]
  refine ⟨?_, by first | rfl | trivial⟩
  by_cases q0 : a1 ≥ 0
  · have q0' : 0 ≤ a1 := q0
    simp [q0']
  · have q0' : ¬ 0 ≤ a1 := q0
    simp [q0']
theorem lim_of {ns : List Nat} (hn : 1 ≤ ns.length ∧ ns.length ≤ 8) (h0 : ∀ y ∈ ns, 0 < y) (h1 : ∀ y ∈ ns, y ≤ 20) : lim (ns.map Int.ofNat) = true := by
  unfold lim
  rw [List.length_map, decide_eq_true (by omega), Bool.true_and, List.all_eq_true]
  intro x hx
  obtain ⟨y, hy, rfl⟩ := List.mem_map.1 hx
  have a := h0 y hy
  have b := h1 y hy
  exact decide_eq_true (show 1 ≤ (y : Int) ∧ (y : Int) ≤ 20 by omega)
/-- limits, as natural numbers -/
def Lm (ns : List Nat) : Prop := (1 ≤ ns.length ∧ ns.length ≤ 8) ∧ (∀ y ∈ ns, 0 < y) ∧ ∀ y ∈ ns, y ≤ 20
theorem mixedAt_yes {ns : List Nat} (h : Lm ns) {n k : Nat} (hn : n < M.prod ns) (hk : 60 < k) : impl_MixedAt.f k (ns.map Int.ofNat) (n : Int) = some ((M.mix ns n).map Int.ofNat, true) ∧ spec_MixedAt.f k (ns.map Int.ofNat) (n : Int) = some ((M.mix ns n).map Int.ofNat, true) := by
  obtain ⟨hl, h0, h1⟩ := h
  have hh := mixed_head hl h0 h1 (lim_of hl h0 h1) (n : Int) hk
  have hv := mixVal_l0 h0 h1 hl.2 ns.length 0 n (k - 1) [] (by omega) (by simp) (by simpa using hn) (by omega)
  rw [hh.1, hh.2, decide_eq_true (by omega)]
  obtain ⟨k, rfl⟩ : ∃ m, k = m + 1 := ⟨k - 1, by omega⟩
  rw [spec_MixedAt.j0, impl_MixedAt.j0, List.length_map, mixedAt_eq]
  simp only [Bool.not_true, Bool.false_eq_true, if_false]
  rw [Nat.add_sub_cancel] at hv
  exact ⟨hv, hv⟩
theorem mixedAt_no {l : List Int} {a1 : Int} {k : Nat} (hl : l.length ≤ 2000000) (h : ¬ ∃ (ns : List Nat) (n : Nat), l = ns.map Int.ofNat ∧ Lm ns ∧ a1 = (n : Int) ∧ n < M.prod ns) (hk : l.length + 60 < k) : impl_MixedAt.f k l a1 = some ([], false) ∧ spec_MixedAt.f k l a1 = some ([], false) := by
  cases hq : lim l with
  | false =>
    obtain ⟨k, rfl⟩ : ∃ m, k = m + 1 := ⟨k - 1, by omega⟩
    unfold spec_MixedAt.f impl_MixedAt.f
    rw [nuLimits hl (by omega), areLimits, hq]
    exact ⟨rfl, rfl⟩
  | true =>
    obtain ⟨ns, rfl, hn, h0, h1⟩ := lim_nats hq
    have hh := mixed_head hn h0 h1 hq a1 (k := k) (by omega)
    have hr : ¬ (0 ≤ a1 ∧ a1 ≤ (M.prod ns : Int) - 1) := by
      rintro ⟨h3, h4⟩
      obtain ⟨n, rfl⟩ := Int.eq_ofNat_of_zero_le h3
      exact h ⟨ns, n, rfl, ⟨hn, h0, h1⟩, rfl, by omega⟩
    rw [hh.1, hh.2, decide_eq_false hr]
    obtain ⟨k, rfl⟩ : ∃ m, k = m + 1 := ⟨k - 1, by omega⟩
    exact ⟨rfl, rfl⟩
theorem dig_length : ∀ {l ds : List Nat}, M.Dig l ds → ds.length = l.length
  | _, _, .nil => rfl
  | _, _, .cons h t => by simp [dig_length t]
theorem dig_drop : ∀ {l ds : List Nat} (i : Nat), M.Dig l ds → M.Dig (l.drop i) (ds.drop i)
  | _, _, 0, h => h
  | _, _, i + 1, .nil => by simp; exact .nil
  | _, _, i + 1, .cons h t => by simpa using dig_drop i t
theorem dig_get : ∀ {l ds : List Nat}, M.Dig l ds → ∀ (i : Nat) (h : i < l.length) (h' : i < ds.length), ds[i] < l[i]
  | _, _, .nil, i, h, _ => by simp at h
  | _, _, .cons h t, 0, _, _ => by simpa using h
  | _, _, .cons h t, i + 1, h1, h2 => by simpa using dig_get t i (by simpa using h1) (by simpa using h2)
theorem dig_of : ∀ {l ds : List Nat}, ds.length = l.length → (∀ (i : Nat) (h : i < l.length) (h' : i < ds.length), ds[i] < l[i]) → M.Dig l ds
  | [], [], _, _ => .nil
  | [], _ :: _, h, _ => by simp at h
  | _ :: _, [], h, _ => by simp at h
  | a :: l, d :: ds, h, hh => .cons (hh 0 (Nat.succ_pos _) (Nat.succ_pos _)) (dig_of (by simpa using h) (fun i h1 h2 => hh (i + 1) (Nat.succ_lt_succ h1) (Nat.succ_lt_succ h2)))
theorem rankVal_l1 {ns ds : List Nat} (h0 : ∀ y ∈ ns, 0 < y) (h1 : ∀ y ∈ ns, y ≤ 20) (hl : ns.length ≤ 8) (hD : M.Dig ns ds) (i : Nat) : ∀ (x8 : Int) (k : Nat), x8 = (i : Int) - 1 → i ≤ ns.length → i + 10 < k →
    spec_RankOfMixed.l1 k (ns.map Int.ofNat) (ds.map Int.ofNat) (M.mrk (ns.drop i) (ds.drop i) : Int) x8 = some ((M.mrk ns ds : Int), true) ∧ impl_RankOfMixed.l0 k (ns.map Int.ofNat) (ds.map Int.ofNat) (M.mrk (ns.drop i) (ds.drop i) : Int) (M.prod (ns.drop i) : Int) x8 = some ((M.mrk ns ds : Int), true) := by
  have hll := dig_length hD
  induction i with
  | zero =>
    intro x8 k hx _ hk
    obtain ⟨k, rfl⟩ : ∃ m, k = m + 1 := ⟨k - 1, by omega⟩
    constructor
    · rw [spec_RankOfMixed.l1, if_neg (by omega)]; rfl
    · rw [impl_RankOfMixed.l0, if_neg (by omega)]; rfl
  | succ i ih =>
    intro x8 k hx hi hk
    have hx8 : x8 = (i : Int) := by omega
    subst hx8
    obtain ⟨k, rfl⟩ : ∃ m, k = m + 1 := ⟨k - 1, by omega⟩
    obtain ⟨p1, p2, p3⟩ := prod_drop h0 h1 hl (i + 1) k (by omega)
    obtain ⟨_, p4, p5⟩ := prod_drop h0 h1 hl i 9 (by omega)
    have hin : ns[i] ∈ ns := List.getElem_mem _
    have hno := h1 _ hin
    have hdi := dig_get hD i (by omega) (by omega)
    have hR := (M.mix_mrk (dig_drop (i + 1) hD)).2
    have hr : rd (ns.map Int.ofNat) (i : Int) = (ns[i] : Int) := rdm (by omega)
    have hd : rd (ds.map Int.ofNat) (i : Int) = (ds[i] : Int) := rdm (by omega)
    have ih := ih ((i : Int) - 1) k rfl (by omega) (by omega)
    rw [drop_at (i := i) (by omega), drop_at (ns := ds) (i := i) (by omega), M.mrk, M.prod] at ih
    rw [drop_at (i := i) (by omega), M.prod] at p5
    generalize M.mrk (ns.drop (i + 1)) (ds.drop (i + 1)) = R at *
    generalize M.prod (ns.drop (i + 1)) = P at *
    have hdP : ds[i] * P ≤ 19 * P := Nat.mul_le_mul_right _ (by omega)
    have em : Aside0 (wrap64 ((i : Int) - 1) = (i : Int) - 1) := ⟨w64 (by omega) (by omega)⟩
    have ep : Aside0 (wrap64 ((i : Int) + 1) = ((i + 1 : Nat) : Int)) := ⟨by rw [w64 (by omega) (by omega)]; omega⟩
    have e1 : Aside0 (wrap64 ((P : Int) * (ns[i] : Int)) = ((ns[i] * P : Nat) : Int)) := ⟨by rw [← Int.natCast_mul, Nat.mul_comm, w64 (by omega) (by omega)]⟩
    have e2 : Aside0 (wrap64 ((ds[i] : Int) * (P : Int)) = ((ds[i] * P : Nat) : Int)) := ⟨by rw [← Int.natCast_mul, w64 (by omega) (by omega)]⟩
    have e3 : Aside0 (wrap64 ((wrap64 ((wrap64 ((P : Int) - 1)) - (R : Int))) + ((ds[i] * P : Nat) : Int)) = ((ds[i] * P + (P - 1 - R) : Nat) : Int)) := ⟨by rw [w64 (x := (P : Int) - 1) (by omega) (by omega), w64 (x := (P : Int) - 1 - (R : Int)) (by omega) (by omega), w64 (by omega) (by omega)]; omega⟩
    have e4 : Aside0 (wrap64 ((R : Int) + ((ds[i] * P : Nat) : Int)) = ((ds[i] * P + R : Nat) : Int)) := ⟨by rw [w64 (by omega) (by omega)]; omega⟩
    have e5 : Aside0 (Int.tmod (ds[i] : Int) 2 = ((ds[i] % 2 : Nat) : Int)) := ⟨(Int.ofNat_tmod _ _).symm⟩
    have e6 : Aside0 (wrap64 ((ns[i] : Int) - 1) = (ns[i] : Int) - 1) := ⟨w64 (by omega) (by omega)⟩
    have hin' : impl_in.f (ds[i] : Int) 0 ((ns[i] : Int) - 1) = some true := by
      rw [in_val, decide_eq_true (by omega)]
    constructor
    · rw [spec_RankOfMixed.l1, if_pos (by omega), ep.out, if_pos (by omega), if_pos (by rw [List.length_map]; omega), Int.toNat_natCast, p1]
      simp only [Option.bind_some]
      rw [if_pos (by omega), if_pos (by rw [List.length_map]; omega), hd, e2.out, e3.out, e4.out, e5.out, em.out]
      by_cases q : ds[i] % 2 = 1
      · have tt : M.turn P ds[i] R = P - 1 - R := by unfold M.turn; rw [if_pos q]
        rw [tt] at ih
        rw [if_pos (by omega)]; exact ih.1
      · have tt : M.turn P ds[i] R = R := by unfold M.turn; rw [if_neg q]
        rw [tt] at ih
        rw [if_neg (by omega)]; exact ih.1
    · rw [impl_RankOfMixed.l0, if_pos (by omega), if_pos (by omega), if_pos (by rw [List.length_map]; omega), if_pos (by rw [List.length_map]; omega), hr, hd, e6.out, hin']
      simp only [Option.bind_some, if_true]
      rw [e1.out, e2.out, e3.out, e4.out, e5.out, em.out]
      by_cases q : ds[i] % 2 = 1
      · have tt : M.turn P ds[i] R = P - 1 - R := by unfold M.turn; rw [if_pos q]
        rw [tt] at ih
        rw [if_pos (by omega)]; exact ih.2
      · have tt : M.turn P ds[i] R = R := by unfold M.turn; rw [if_neg q]
        rw [tt] at ih
        rw [if_neg (by omega)]; exact ih.2
theorem okd_of {ns ds : List Nat} (hD : M.Dig ns ds) : ∀ j, j < ns.length → okd (ns.map Int.ofNat) (ds.map Int.ofNat) j := by
  intro j hj
  have hll := dig_length hD
  have := dig_get hD j hj (by omega)
  unfold okd
  rw [rdm hj, rdm (ns := ds) (by omega)]
  omega
/-- digits that fit limits, or none -/
theorem mixedRank (l0 l1 : List Int) (hl : l0.length ≤ 2000000) : (∃ ns ds : List Nat, l0 = ns.map Int.ofNat ∧ l1 = ds.map Int.ofNat ∧ Lm ns ∧ M.Dig ns ds ∧ ∀ k, 80 < k → spec_RankOfMixed.f k l0 l1 = some ((M.mrk ns ds : Int), true) ∧ impl_RankOfMixed.f k l0 l1 = some ((M.mrk ns ds : Int), true)) ∨
    ((¬ ∃ ns ds : List Nat, l0 = ns.map Int.ofNat ∧ l1 = ds.map Int.ofNat ∧ Lm ns ∧ M.Dig ns ds) ∧ ∀ k, l0.length + 80 < k → spec_RankOfMixed.f k l0 l1 = some (0, false) ∧ impl_RankOfMixed.f k l0 l1 = some (0, false)) := by
  cases hq : lim l0 with
  | false =>
    refine .inr ⟨?_, fun k hk => ?_⟩
    · rintro ⟨ns, ds, rfl, rfl, h, hD⟩
      rw [lim_of h.1 h.2.1 h.2.2] at hq
      cases hq
    · obtain ⟨k, rfl⟩ : ∃ m, k = m + 1 := ⟨k - 1, by omega⟩
      unfold spec_RankOfMixed.f impl_RankOfMixed.f
      rw [nuLimits hl (by omega), areLimits, hq]
      exact ⟨rfl, rfl⟩
  | true =>
    obtain ⟨ns, rfl, hn, h0, h1⟩ := lim_nats hq
    by_cases hll : l1.length = ns.length
    · have hb : ((l1.length : Int) != ((ns.map Int.ofNat).length : Int)) = false := by rw [hll, List.length_map]; simp
      have ew : wrap64 ((l1.length : Int) - 1) = (ns.length : Int) - 1 := by rw [hll, w64 (by omega) (by omega)]
      have head : ∀ k, 60 < k + 1 → spec_RankOfMixed.f (k + 1) (ns.map Int.ofNat) l1 = spec_RankOfMixed.l0 k (ns.map Int.ofNat) l1 l1 (l1.length : Int) 0 ∧ impl_RankOfMixed.f (k + 1) (ns.map Int.ofNat) l1 = impl_RankOfMixed.l0 k (ns.map Int.ofNat) l1 0 1 ((ns.length : Int) - 1) := by
        intro k hk
        unfold spec_RankOfMixed.f impl_RankOfMixed.f
        rw [nuLimits hl (by rw [List.length_map]; omega), areLimits, hq, hb]
        simp only [Option.bind_some, if_true]
        rw [spec_RankOfMixed.j0, impl_RankOfMixed.j0, ew]
        simp only [Bool.false_eq_true, if_false]
        exact ⟨by first | rfl | trivial, by first | rfl | trivial⟩
      have EW : Aside0 (wrap64 ((l1.length : Int) - 1) = (ns.length : Int) - 1) := ⟨ew⟩
      clear ew
      by_cases hg : ∀ j, j < ns.length → okd (ns.map Int.ofNat) l1 j
      · obtain ⟨ds, rfl⟩ := toNats (l := l1) (fun x hx => by
          obtain ⟨j, hj, e⟩ := List.getElem_of_mem hx
          have := (hg j (by omega)).1
          rw [rd_nat (List.getElem?_eq_getElem hj), e] at this
          exact this)
        rw [List.length_map] at hll
        have hD : M.Dig ns ds := dig_of hll (fun i h1 h2 => by
          have := (hg i h1).2
          rw [rdm h1, rdm h2] at this
          omega)
        refine .inl ⟨ns, ds, rfl, rfl, ⟨hn, h0, h1⟩, hD, fun k hk => ?_⟩
        obtain ⟨k, rfl⟩ : ∃ m, k = m + 1 := ⟨k - 1, by omega⟩
        rw [(head k (by omega)).1, (head k (by omega)).2]
        obtain ⟨m, rfl⟩ : ∃ m, k = m + ns.length + 1 := ⟨k - ns.length - 1, by omega⟩
        have e := rank_l0 h1 hn.2 (by rw [List.length_map]; exact hll) EW ns.length 0 m (m + ns.length + 1) rfl (by omega) (fun j _ => hg j)
        have v := fun k hk => rankVal_l1 h0 h1 hn.2 hD ns.length ((ns.length : Int) - 1) k rfl (Nat.le_refl _) hk
        rw [List.drop_of_length_le (Nat.le_refl _), List.drop_of_length_le (by omega)] at v
        exact ⟨e.trans (v m (by omega)).1, (v (m + ns.length + 1) (by omega)).2⟩
      · refine .inr ⟨?_, fun k hk => ?_⟩
        · rintro ⟨ms, ds, e, rfl, h, hD⟩
          rw [← mapInj e] at hD
          exact hg (okd_of hD)
        · obtain ⟨k, rfl⟩ : ∃ m, k = m + 1 := ⟨k - 1, by omega⟩
          rw [(head k (by omega)).1, (head k (by omega)).2]
          rw [List.length_map] at hk
          exact ⟨rank_l0_bad h1 hn.2 hll ns.length 0 k (by omega) (fun hh => hg fun j hj => hh j (by omega) hj) (by omega), rank_bad h0 h1 hn.2 hll ns.length 0 1 ((ns.length : Int) - 1) k rfl (Nat.le_refl _) hg (by omega)⟩
    · have hb : ((l1.length : Int) != ((ns.map Int.ofNat).length : Int)) = true := by rw [List.length_map]; simp; omega
      refine .inr ⟨?_, fun k hk => ?_⟩
      · rintro ⟨ms, ds, e, rfl, h, hD⟩
        rw [← mapInj e] at hD
        have := dig_length hD
        rw [List.length_map] at hll
        exact hll this
      · obtain ⟨k, rfl⟩ : ∃ m, k = m + 1 := ⟨k - 1, by omega⟩
        unfold spec_RankOfMixed.f impl_RankOfMixed.f
        rw [nuLimits hl (by omega), areLimits, hq, hb]
        exact ⟨rfl, rfl⟩
/-- which lists of the order by swaps there are -/
def SwO (a0 a1 : Int) : Prop := ∃ s r : Nat, a0 = s ∧ a1 = r ∧ 1 ≤ s ∧ s ≤ 10 ∧ r < M.fact s
theorem swappedAt_yes {s r k : Nat} (h1 : 1 ≤ s) (h2 : s ≤ 10) (h3 : r < M.fact s) (hk : 50 < k) : impl_SwappedAt.f k (s : Int) (r : Int) = some ((M.sw s r).map Int.ofNat, true) ∧ spec_SwappedAt.f k (s : Int) (r : Int) = some ((M.sw s r).map Int.ofNat, true) := by
  have h4 := fact_bound (s := s) (by omega)
  constructor
  · unfold impl_SwappedAt.f
    rw [isSwapped_val (by omega) true (by simp only [true_iff]; exact ⟨s, r, rfl, rfl, h1, h2, h3⟩)]
    simp only [Option.bind_some, if_true]
    rw [swapped_eq, nuSwapped s r k (by omega) (by omega) (by omega)]
    rfl
  · unfold spec_SwappedAt.f
    rw [in_dec, decide_eq_true (by omega), lists (by omega) (by omega)]
    simp only [Option.bind_some, if_true]
    rw [w64 (by omega) (by omega), in_dec, decide_eq_true (by omega), nuSwapped s r k (by omega) (by omega) (by omega)]
    rfl
theorem swappedAt_no {a0 a1 : Int} {k : Nat} (h : ¬ SwO a0 a1) (hk : 50 < k) : impl_SwappedAt.f k a0 a1 = some ([], false) ∧ spec_SwappedAt.f k a0 a1 = some ([], false) := by
  constructor
  · unfold impl_SwappedAt.f
    rw [isSwapped_val (by omega) false (by simp only [Bool.false_eq_true, false_iff]; exact h)]
    rfl
  · unfold spec_SwappedAt.f
    rw [in_dec]
    by_cases c : 1 ≤ a0 ∧ a0 ≤ 10
    · obtain ⟨s, rfl⟩ := Int.eq_ofNat_of_zero_le (show 0 ≤ a0 by omega)
      have h4 := fact_bound (s := s) (by omega)
      rw [decide_eq_true c, lists (by omega) (by omega)]
      simp only [Option.bind_some, if_true]
      rw [w64 (by omega) (by omega), in_dec, decide_eq_false]
      · rfl
      · rintro ⟨h5, h6⟩
        obtain ⟨r, rfl⟩ := Int.eq_ofNat_of_zero_le h5
        exact h ⟨s, r, rfl, rfl, by omega, by omega, by omega⟩
    · rw [decide_eq_false c]; rfl
theorem ex_dif : ∀ {p : Nat} {a b : List Nat}, M.Ex p a b → M.dif a b = 2
  | _, _, _, .here x y r h => by
    rw [M.dif, M.dif, if_neg h, if_neg (Ne.symm h), M.dif_self]
  | _, _, _, .there x h => by
    rw [M.dif, if_pos rfl, ex_dif h]
theorem ex_get : ∀ {p : Nat} {a b : List Nat}, M.Ex p a b → a.length = b.length ∧ p + 1 < a.length ∧ a[p]? = b[p + 1]? ∧ a[p + 1]? = b[p]?
  | _, _, _, .here x y r h => by simp
  | _, _, _, .there x h => by
    obtain ⟨h1, h2, h3, h4⟩ := ex_get h
    refine ⟨by simp [h1], by simp; omega, ?_, ?_⟩
    · simpa using h3
    · simpa using h4
theorem place_l0 {a b : List Nat} (hl : a.length = b.length) (hb : a.length ≤ 1000) : ∀ {p : Nat} {r s : List Nat}, M.Ex p r s → ∀ (k i : Nat), a.drop i = r → b.drop i = s → p < k →
    spec_SwapPlace.l0 k (a.map Int.ofNat) (b.map Int.ofNat) (a.length : Int) (i : Int) = some (((i + p : Nat) : Int), true) ∧ impl_SwapPlace.l0 k (a.map Int.ofNat) (b.map Int.ofNat) (a.length : Int) (i : Int) = some (((i + p : Nat) : Int), true)
  | _, _, _, .here x y t h, k, i, hr, hs, hk => by
    obtain ⟨k, rfl⟩ : ∃ m, k = m + 1 := ⟨k - 1, by omega⟩
    obtain ⟨g2, g3, g4⟩ := getElem?_drop_cons hr
    obtain ⟨f2, f3, f4⟩ := getElem?_drop_cons hs
    have ha : rd (a.map Int.ofNat) (i : Int) = (x : Int) := rd_nat (by rw [List.getElem?_map, g2]; rfl)
    have hb' : rd (b.map Int.ofNat) (i : Int) = (y : Int) := rd_nat (by rw [List.getElem?_map, f2]; rfl)
    have c1 : (i : Int) < (a.length : Int) := by omega
    have c2 : (0 : Int) ≤ (i : Int) := by omega
    have c3 : (i : Int) < ((a.map Int.ofNat).length : Int) := by rw [List.length_map]; omega
    have c4 : (i : Int) < ((b.map Int.ofNat).length : Int) := by rw [List.length_map]; omega
    have c5 : ¬ (x : Int) = (y : Int) := by omega
    simp only [spec_SwapPlace.l0, impl_SwapPlace.l0]
    rw [if_pos c1, if_pos c2, if_pos c3, if_pos c4, ha, hb', if_neg c5, if_pos c1, if_pos c2, if_pos c3, if_pos c4, if_neg c5]
    exact ⟨rfl, rfl⟩
  | _, _, _, .there (p := p) x h, k, i, hr, hs, hk => by
    obtain ⟨k, rfl⟩ : ∃ m, k = m + 1 := ⟨k - 1, by omega⟩
    obtain ⟨g2, g3, g4⟩ := getElem?_drop_cons hr
    obtain ⟨f2, f3, f4⟩ := getElem?_drop_cons hs
    have ha : rd (a.map Int.ofNat) (i : Int) = (x : Int) := rd_nat (by rw [List.getElem?_map, g2]; rfl)
    have hb' : rd (b.map Int.ofNat) (i : Int) = (x : Int) := rd_nat (by rw [List.getElem?_map, f2]; rfl)
    have c1 : (i : Int) < (a.length : Int) := by omega
    have c2 : (0 : Int) ≤ (i : Int) := by omega
    have c3 : (i : Int) < ((a.map Int.ofNat).length : Int) := by rw [List.length_map]; omega
    have c4 : (i : Int) < ((b.map Int.ofNat).length : Int) := by rw [List.length_map]; omega
    have e : Aside0 (wrap64 ((i : Int) + 1) = ((i + 1 : Nat) : Int)) := ⟨by rw [w64 (by omega) (by omega)]; omega⟩
    have ih := place_l0 hl hb h k (i + 1) g3 f3 (by omega)
    simp only [spec_SwapPlace.l0, impl_SwapPlace.l0]
    rw [if_pos c1, if_pos c2, if_pos c3, if_pos c4, ha, hb', if_pos rfl, if_pos c1, if_pos c2, if_pos c3, if_pos c4, if_pos rfl, e.out, show i + (p + 1) = i + 1 + p by omega]
    exact ih
/-- the place of the swap behind a list, or none -/
theorem swapPlace (a0 a1 : Int) : (∃ s r p : Nat, a0 = s ∧ a1 = r ∧ 1 ≤ s ∧ s ≤ 10 ∧ r + 1 < M.fact s ∧ M.Ex p (M.sw s r) (M.sw s (r + 1)) ∧ ∀ k, 60 < k → spec_SwapPlace.f k a0 a1 = some ((p : Int), true) ∧ impl_SwapPlace.f k a0 a1 = some ((p : Int), true)) ∨
    (∀ k, 60 < k → spec_SwapPlace.f k a0 a1 = some (0, false) ∧ impl_SwapPlace.f k a0 a1 = some (0, false)) := by
  by_cases c : 1 ≤ a0 ∧ a0 ≤ 10
  · obtain ⟨s, rfl⟩ := Int.eq_ofNat_of_zero_le (show 0 ≤ a0 by omega)
    have h4 := fact_bound (s := s) (by omega)
    have E2 : Aside0 (wrap64 ((M.fact s : Int) - 2) = (M.fact s : Int) - 2) := ⟨w64 (by omega) (by omega)⟩
    have E1 : Aside0 (wrap64 ((M.fact s : Int) - 1) = (M.fact s : Int) - 1) := ⟨w64 (by omega) (by omega)⟩
    by_cases h : 0 ≤ a1 ∧ a1 ≤ (M.fact s : Int) - 2
    · obtain ⟨r, rfl⟩ := Int.eq_ofNat_of_zero_le h.1
      have hr : r + 1 < M.fact s := by omega
      obtain ⟨p, hp⟩ := M.sw_step hr
      refine .inl ⟨s, r, p, rfl, rfl, by omega, by omega, hr, hp, fun k hk => ?_⟩
      obtain ⟨k, rfl⟩ : ∃ m, k = m + 1 := ⟨k - 1, by omega⟩
      have hpl := (ex_get hp).2.1
      have hsl := M.sw_length s r
      have ER : Aside0 (wrap64 ((r : Int) + 1) = ((r + 1 : Nat) : Int)) := ⟨by rw [w64 (by omega) (by omega)]; omega⟩
      have hpl0 := place_l0 (a := M.sw s r) (b := M.sw s (r + 1)) (by rw [M.sw_length, M.sw_length]) (by omega) hp k 0 rfl rfl (by omega)
      rw [Nat.zero_add, M.sw_length] at hpl0
      unfold spec_SwapPlace.f impl_SwapPlace.f
      rw [in_dec, decide_eq_true c, lists (by omega) (by omega), orders (by omega) (by omega)]
      simp only [Option.bind_some, if_true]
      rw [E2.out, E1.out, in_dec, isSwapped_val (k := k + 1) (by omega) true (by simp only [true_iff]; exact ⟨s, r, rfl, rfl, by omega, by omega, by omega⟩), decide_eq_true h]
      simp only [Option.bind_some, if_true]
      rw [show ((r : Int) == (M.fact s : Int) - 1) = false from beq_eq_false_iff_ne.mpr (by omega)]
      rw [spec_SwapPlace.j0, impl_SwapPlace.j0]
      simp only [Bool.not_true, Bool.false_eq_true, if_false]
      rw [swapped_eq, swapped_eq, ER.out, nuSwapped s r k (by omega) (by omega) (by omega), nuSwapped s (r + 1) k (by omega) (by omega) (by omega)]
      simp only [Option.bind_some]
      rw [List.length_map, M.sw_length]
      exact hpl0
    · refine .inr fun k hk => ?_
      obtain ⟨k, rfl⟩ : ∃ m, k = m + 1 := ⟨k - 1, by omega⟩
      unfold spec_SwapPlace.f impl_SwapPlace.f
      rw [in_dec, decide_eq_true c, lists (by omega) (by omega), orders (by omega) (by omega)]
      simp only [Option.bind_some, if_true]
      rw [E2.out, E1.out, in_dec, decide_eq_false h]
      refine ⟨?_, ?_⟩
      · rw [Option.bind_some, spec_SwapPlace.j0]; rfl
      · by_cases h5 : a1 = (M.fact s : Int) - 1
        · subst h5
          obtain ⟨r, hr⟩ := Int.eq_ofNat_of_zero_le (show 0 ≤ (M.fact s : Int) - 1 by have := M.fact_pos s; omega)
          rw [isSwapped_val (k := k + 1) (by omega) true (by simp only [true_iff]; exact ⟨s, r, rfl, hr, by omega, by omega, by omega⟩)]
          simp only [Option.bind_some, if_true, beq_self_eq_true]
          rw [impl_SwapPlace.j0]; rfl
        · rw [isSwapped_val (k := k + 1) (by omega) false (by
            simp only [Bool.false_eq_true, false_iff]
            rintro ⟨s', r, h6, rfl, h7, h8, h9⟩
            have : s' = s := by omega
            subst this
            omega)]
          simp only [Option.bind_some, Bool.false_eq_true, if_false]
          rw [impl_SwapPlace.j0]; rfl
  · refine .inr fun k hk => ?_
    obtain ⟨k, rfl⟩ : ∃ m, k = m + 1 := ⟨k - 1, by omega⟩
    unfold spec_SwapPlace.f impl_SwapPlace.f
    rw [in_dec, decide_eq_false c, isSwapped_val (k := k + 1) (by omega) false (by
      simp only [Bool.false_eq_true, false_iff]
      rintro ⟨s', r, h6, rfl, h7, h8, h9⟩
      exact c (by omega))]
    simp only [Option.bind_some, Bool.false_eq_true, if_false]
    refine ⟨?_, ?_⟩
    · rw [spec_SwapPlace.j0]; rfl
    · rw [impl_SwapPlace.j0]; rfl
theorem perm_facts {ns : List Nat} (hp : M.Perm ns.length ns) : rng (ns.map Int.ofNat) ∧ (ns.map Int.ofNat).Nodup := by
  obtain ⟨_, h1, h2⟩ := hp
  constructor
  · intro x hx
    obtain ⟨y, hy, rfl⟩ := List.mem_map.1 hx
    have := h1 y hy
    rw [List.length_map]
    exact (show 0 ≤ (y : Int) ∧ (y : Int) ≤ (ns.length : Int) - 1 by omega)
  · rw [List.nodup_iff_pairwise_ne] at h2 ⊢
    rw [List.pairwise_map]
    exact h2.imp (fun {a b} h e => h (Int.ofNat.inj e))
/-- the rank of a list in the order by swaps, or none -/
theorem rankOfSwapped (l : List Int) (hl : l.length ≤ 2000000) : (∃ ns : List Nat, l = ns.map Int.ofNat ∧ M.Perm ns.length ns ∧ (1 ≤ ns.length ∧ ns.length ≤ 10) ∧ ∀ k, 400 < k → spec_RankOfSwapped.f k l = some ((M.srk ns.length ns : Int), true) ∧ impl_RankOfSwapped.f k l = some ((M.srk ns.length ns : Int), true)) ∨
    ((¬ ∃ ns : List Nat, l = ns.map Int.ofNat ∧ M.Perm ns.length ns ∧ (1 ≤ ns.length ∧ ns.length ≤ 10)) ∧ ∀ k, l.length + 400 < k → spec_RankOfSwapped.f k l = some (0, false) ∧ impl_RankOfSwapped.f k l = some (0, false)) := by
  by_cases hlen : 1 ≤ (l.length : Int) ∧ (l.length : Int) ≤ 10
  · have ew : Aside0 (wrap64 ((l.length : Int) - 1) = (l.length : Int) - 1) := ⟨w64 (by omega) (by omega)⟩
    have hhead : ∀ (k : Nat) (b : Bool), l.length + 300 < k → (b = true ↔ rng l) → spec_RankOfSwapped.f k l = spec_RankOfSwapped.j0 k l (l.length : Int) (!b) := by
      intro k b hk hb
      unfold spec_RankOfSwapped.f
      rw [in_dec, decide_eq_true hlen, ew.out, l1All hl (by omega)]
      simp only [Option.bind_some, if_true]
      have : (l.all fun x => decide (0 ≤ x ∧ x ≤ (l.length : Int) - 1)) = b := by
        cases b with
        | true =>
          rw [List.all_eq_true]
          intro x hx
          exact decide_eq_true (hb.1 rfl x hx)
        | false =>
          cases hq : (l.all fun x => decide (0 ≤ x ∧ x ≤ (l.length : Int) - 1)) with
          | false => rfl
          | true =>
            rw [List.all_eq_true] at hq
            have := hb.2 (fun x hx => of_decide_eq_true (hq x hx))
            cases this
      rw [this]
    have hperm : ∀ (k : Nat) (b : Bool), 200 < k → (b = true ↔ rng l ∧ l.Nodup) → impl_isPermutation.f k l = some b := by
      intro k b hk hb
      unfold impl_isPermutation.f
      exact isPerm_l0 (by omega) l.length k 0 (by omega) (by omega) (by simp) (by simp) b hb
    by_cases hr : rng l
    · by_cases hn : l.Nodup
      · obtain ⟨ns, rfl, hp⟩ := rng_nats hr hn
        rw [List.length_map] at hlen
        refine .inl ⟨ns, rfl, hp, by omega, fun k hk => ⟨?_, ?_⟩⟩
        · rw [hhead k true (by rw [List.length_map]; omega) (by simp [hr])]
          obtain ⟨k, rfl⟩ : ∃ m, k = m + 1 := ⟨k - 1, by omega⟩
          rw [spec_RankOfSwapped.j0]
          simp only [Bool.not_true, Bool.false_eq_true, if_false]
          have e := has_l0_ok (l := ns.map Int.ofNat) (s := (ns.length : Int)) (by rw [List.length_map]; omega) hn ns.length 0 (k - ns.length - 1) k (by omega) (by rw [List.length_map]; omega) (by omega)
          rw [List.length_map] at e ⊢
          refine e.trans ?_
          have := l1_at (ns := ns) (s := ns.length) (by omega) hp ns.length (k - ns.length - 1) 0 (by omega) (by omega)
          exact this
        · have h1 := hperm k true (by omega) (by simp [hr, hn])
          unfold impl_RankOfSwapped.f
          rw [in_val, List.length_map, decide_eq_true hlen]
          simp only [Option.bind_some, if_true]
          rw [h1, swapRank ns.length k ns (by omega) hp (by omega)]
          simp only [Option.bind_some, if_true]
      · refine .inr ⟨?_, fun k hk => ⟨?_, ?_⟩⟩
        · rintro ⟨ns, rfl, hp, _⟩
          exact hn (perm_facts hp).2
        · rw [hhead k true (by omega) (by simp [hr])]
          obtain ⟨k, rfl⟩ : ∃ m, k = m + 1 := ⟨k - 1, by omega⟩
          rw [spec_RankOfSwapped.j0]
          simp only [Bool.not_true, Bool.false_eq_true, if_false]
          exact has_l0_bad (by omega) hn l.length 0 k (by omega) (by omega) (by simp)
        · have h1 := hperm k false (by omega) (by simp [hn])
          unfold impl_RankOfSwapped.f
          rw [in_val, decide_eq_true hlen]
          simp only [Option.bind_some, if_true]
          rw [h1]
          rfl
    · refine .inr ⟨?_, fun k hk => ⟨?_, ?_⟩⟩
      · rintro ⟨ns, rfl, hp, _⟩
        exact hr (perm_facts hp).1
      · rw [hhead k false (by omega) (by simp [hr])]
        obtain ⟨k, rfl⟩ : ∃ m, k = m + 1 := ⟨k - 1, by omega⟩
        rw [spec_RankOfSwapped.j0]; rfl
      · have h1 := hperm k false (by omega) (by simp [hr])
        unfold impl_RankOfSwapped.f
        rw [in_val, decide_eq_true hlen]
        simp only [Option.bind_some, if_true]
        rw [h1]
        rfl
  · refine .inr ⟨?_, fun k hk => ⟨?_, ?_⟩⟩
    · rintro ⟨ns, rfl, hp, h1, h2⟩
      rw [List.length_map] at hlen
      exact hlen (by omega)
    · unfold spec_RankOfSwapped.f
      rw [in_dec, decide_eq_false hlen]
      obtain ⟨k, rfl⟩ : ∃ m, k = m + 1 := ⟨k - 1, by omega⟩
      rfl
    · unfold impl_RankOfSwapped.f
      rw [in_val, decide_eq_false hlen]
      rfl
end Go.Proofs.Ytcgilnmljflebaa.Pure
