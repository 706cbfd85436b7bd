/- What the printed functions of mixed digits give. -/
import Derived.Test.YtomaodhlcacobaaAx1
import Derived.Test.YtomaodhlcacobaaAx3
import Derived.Test.YtomaodhlcacobaaAx4
import Derived.Test.YtomaodhlcacobaaMX
import Derived.Test.YtomaodhlcacobaaIntS
set_option linter.unusedVariables false
set_option linter.unusedSimpArgs false
namespace Go.Proofs.Ytomaodhlcacobaa.Pure
open Go.RowKit Go.Proofs.Ytomaodhlcacobaa.A Go.Proofs.YtomaodhlcacobaaW.PrintWords Go.Proofs.YtomaodhlcacobaaW.PrintLast Go.Proofs.YtomaodhlcacobaaW.PrintMore

theorem toNats {l : List Int} (h : ∀ x ∈ l, 0 ≤ x) : ∃ ns : List Nat, l = ns.map Int.ofNat := by
  refine ⟨l.map Int.toNat, ?_⟩
  rw [List.map_map]
  conv => lhs; rw [← List.map_id l]
  apply List.map_congr_left
  intro x hx
  have := h x hx
  show x = ((x.toNat : Nat) : Int)
  omega
/-! products -/
theorem prod_le : ∀ {l : List Nat}, (∀ x ∈ l, x ≤ 20) → M.prod l ≤ 20 ^ l.length
  | [], _ => by decide
  | a :: r, h => by
    have := prod_le (l := r) (fun x hx => h x (by simp [hx]))
    rw [M.prod, List.length_cons, Nat.pow_succ, Nat.mul_comm (20 ^ r.length) 20]
    exact Nat.mul_le_mul (h a (by simp)) this
theorem prod_le8 {l : List Nat} (h : ∀ x ∈ l, x ≤ 20) (hl : l.length ≤ 8) : M.prod l ≤ 25600000000 :=
  Nat.le_trans (prod_le h) (Nat.le_trans (Nat.pow_le_pow_right (by decide) hl) (by decide))
theorem nuProduct_l0 {l : List Int} (hl : l.length ≤ 2000000) (r : List Nat) : ∀ (k i x : Nat), l.drop i = r.map Int.ofNat → (∀ y ∈ r, 0 < y) → x * M.prod r < 2 ^ 62 → r.length < k →
    spec_nuProduct.l0 k (x : Int) l (l.length : Int) (i : Int) = some ((x * M.prod r : Nat) : Int) := by
  induction r with
  | nil =>
    intro k i x hd _ _ hk
    obtain ⟨k, rfl⟩ : ∃ m, k = m + 1 := ⟨k - 1, by omega⟩
    have : l.length ≤ i := List.drop_eq_nil_iff.1 hd
    simp only [spec_nuProduct.l0]
    rw [if_neg (by omega)]; simp [M.prod]
  | cons y r ih =>
    intro k i x hd hy hb hk
    obtain ⟨k, rfl⟩ : ∃ m, k = m + 1 := ⟨k - 1, by omega⟩
    obtain ⟨h2, h3, h4⟩ := getElem?_drop_cons hd
    have h2' : l[i]? = some (y : Int) := h2
    have hp := M.prod_pos (l := r) (fun z hz => hy z (by simp [hz]))
    rw [M.prod, ← Nat.mul_assoc] at hb ⊢
    have hxy : x * y < 2 ^ 62 := Nat.lt_of_le_of_lt (Nat.le_mul_of_pos_right _ hp) hb
    simp only [spec_nuProduct.l0]
    rw [if_pos (by omega), if_pos (by omega), if_pos (by omega), rd_nat h2', w64 (x := (i : Int) + 1) (by omega) (by omega), ← Int.natCast_mul, w64 (by omega) (by omega), show ((i : Int) + 1) = ((i + 1 : Nat) : Int) by omega]
    exact ih k (i + 1) (x * y) h3 (fun z hz => hy z (by simp [hz])) hb (by simp at hk; omega)
theorem nuProduct {r : List Nat} {k : Nat} (h0 : ∀ y ∈ r, 0 < y) (h1 : ∀ y ∈ r, y ≤ 20) (hl : r.length ≤ 8) (hk : 8 < k) : spec_nuProduct.f k (r.map Int.ofNat) = some (M.prod r : Int) := by
  have hb := prod_le8 h1 hl
  unfold spec_nuProduct.f
  have := nuProduct_l0 (l := r.map Int.ofNat) (by simp; omega) r k 0 1 (by simp) h0 (by omega) (by omega)
  simpa using this
theorem product_eq : ∀ (k : Nat) (l : List Int), impl_product.f k l = spec_nuProduct.f k l := by
  have h : ∀ (k : Nat) (a : Int) (l : List Int) (b c : Int), impl_product.l0 k a l b c = spec_nuProduct.l0 k a l b c := by
    intro k
    induction k with
    | zero => intros; rfl
    | succ k ih => intro a l b c; rw [impl_product.l0, spec_nuProduct.l0, ih]
  intro k l
  exact h k 1 l _ 0
/-! limits -/
theorem l1All_l0 {l : List Int} {lo hi : Int} (hl : l.length ≤ 2000000) (r : List Int) : ∀ (k i : Nat), l.drop i = r → r.length < k →
    spec_l1All.l0 k lo hi l (l.length : Int) (i : Int) = some (r.all fun x => decide (lo ≤ x ∧ x ≤ hi)) := by
  induction r with
  | nil =>
    intro k i hd hk
    obtain ⟨k, rfl⟩ : ∃ m, k = m + 1 := ⟨k - 1, by omega⟩
    have : l.length ≤ i := List.drop_eq_nil_iff.1 hd
    simp only [spec_l1All.l0]
    rw [if_neg (by omega)]; rfl
  | cons x r ih =>
    intro k i hd hk
    obtain ⟨k, rfl⟩ : ∃ m, k = m + 1 := ⟨k - 1, by omega⟩
    obtain ⟨h2, h3, h4⟩ := getElem?_drop_cons hd
    simp only [spec_l1All.l0, spec_l1In.f]
    rw [if_pos (by omega), if_pos (by omega), if_pos (by omega), rd_nat h2, w64 (x := (i : Int) + 1) (by omega) (by omega), show ((i : Int) + 1) = ((i + 1 : Nat) : Int) by omega]
    rw [ih k (i + 1) h3 (by simp at hk; omega)]
    by_cases q0 : x ≥ lo
    · have q0' : lo ≤ x := q0
      by_cases q1 : x ≤ hi
      · simp [q0', q1]
      · simp [q0', q1]
    · have q0' : ¬ lo ≤ x := q0
      simp [q0']
theorem l1All {l : List Int} {lo hi : Int} {k : Nat} (hl : l.length ≤ 2000000) (hk : l.length < k) : spec_l1All.f k l lo hi = some (l.all fun x => decide (lo ≤ x ∧ x ≤ hi)) := by
  unfold spec_l1All.f
  exact l1All_l0 hl l k 0 (by simp) hk
/-- limits -/
def lim (l : List Int) : Bool := decide (1 ≤ (l.length : Int) ∧ (l.length : Int) ≤ 8) && l.all fun x => decide (1 ≤ x ∧ x ≤ 20)
theorem nuLimits {l : List Int} {k : Nat} (hl : l.length ≤ 2000000) (hk : l.length < k) : spec_nuLimits.f k l = some (lim l) := by
  unfold spec_nuLimits.f spec_l1In.f lim
  rw [l1All hl hk]
  by_cases q0 : (l.length : Int) ≥ 1
  · have q0' : 1 ≤ (l.length : Int) := q0
    by_cases q1 : (l.length : Int) ≤ 8
    · simp [q0', q1]
    · simp [q0', q1]
  · have q0' : ¬ 1 ≤ (l.length : Int) := q0
    simp [q0']
theorem areLimits {l : List Int} : impl_areLimits.f l = some (lim l) := by
  have e : (!(l.any fun n => !(decide (1 ≤ n ∧ n ≤ 20)))) = l.all fun x => decide (1 ≤ x ∧ x ≤ 20) := by
    rw [List.any_eq_not_all_not]; simp
  unfold impl_areLimits.f lim
  rw [in_val, e]
  cases h : decide (1 ≤ (l.length : Int) ∧ (l.length : Int) ≤ 8) <;> simp
theorem lim_nats {l : List Int} (h : lim l = true) : ∃ ns : List Nat, l = ns.map Int.ofNat ∧ (1 ≤ ns.length ∧ ns.length ≤ 8) ∧ (∀ x ∈ ns, 0 < x) ∧ ∀ x ∈ ns, x ≤ 20 := by
  unfold lim at h
  rw [Bool.and_eq_true, List.all_eq_true] at h
  obtain ⟨h1, h2⟩ := h
  have h1' := of_decide_eq_true h1
  have h2' : ∀ x ∈ l, 1 ≤ x ∧ x ≤ 20 := fun x hx => of_decide_eq_true (h2 x hx)
  obtain ⟨ns, rfl⟩ := toNats (l := l) (fun x hx => by have := h2' x hx; omega)
  rw [List.length_map] at h1'
  refine ⟨ns, rfl, by omega, ?_, ?_⟩
  · intro x hx; have := h2' (Int.ofNat x) (List.mem_map.2 ⟨x, hx, rfl⟩); simp at this; omega
  · intro x hx; have := h2' (Int.ofNat x) (List.mem_map.2 ⟨x, hx, rfl⟩); simp at this; omega
theorem drop_map {ns : List Nat} {i : Nat} : (ns.map Int.ofNat).drop i = (ns.drop i).map Int.ofNat := by rw [List.map_drop]
theorem prod_drop {ns : List Nat} (h0 : ∀ y ∈ ns, 0 < y) (h1 : ∀ y ∈ ns, y ≤ 20) (hl : ns.length ≤ 8) (i k : Nat) (hk : 8 < k) : spec_nuProduct.f k ((ns.map Int.ofNat).drop i) = some (M.prod (ns.drop i) : Int) ∧ 0 < M.prod (ns.drop i) ∧ M.prod (ns.drop i) ≤ 25600000000 := by
  have g0 : ∀ y ∈ ns.drop i, 0 < y := fun y hy => h0 y (List.mem_of_mem_drop hy)
  have g1 : ∀ y ∈ ns.drop i, y ≤ 20 := fun y hy => h1 y (List.mem_of_mem_drop hy)
  have gl : (ns.drop i).length ≤ 8 := by rw [List.length_drop]; omega
  rw [drop_map]
  exact ⟨nuProduct g0 g1 gl hk, M.prod_pos g0, prod_le8 g1 gl⟩
theorem in_dec (n a b : Int) : spec_l1In.f n a b = some (decide (a ≤ n ∧ n ≤ b)) := by
  unfold spec_l1In.f
  by_cases q0 : n ≥ a
  · have q0' : a ≤ n := q0
    simp [q0']
  · have q0' : ¬ a ≤ n := q0
    simp [q0']

end Go.Proofs.Ytomaodhlcacobaa.Pure
