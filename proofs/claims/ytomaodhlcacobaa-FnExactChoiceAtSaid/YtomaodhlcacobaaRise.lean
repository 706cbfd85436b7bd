/- What the printed tests of sets give. -/
import Derived.Test.YtomaodhlcacobaaAx1
import Derived.Test.YtomaodhlcacobaaAx5
import Derived.Test.YtomaodhlcacobaaAx6
import Derived.Test.YtomaodhlcacobaaSets
set_option linter.unusedVariables false
set_option linter.unusedSimpArgs false
namespace Go.Proofs.Ytomaodhlcacobaa.Pure
open Go.RowKit Go.Proofs.Ytomaodhlcacobaa.A Go.Proofs.YtomaodhlcacobaaW.PrintWords Go.Proofs.YtomaodhlcacobaaW.PrintLast Go.Proofs.YtomaodhlcacobaaW.PrintMore

/-! increasing numbers -/
def rise (hi : Int) : Int → List Int → Bool
  | _, [] => true
  | p, x :: r => decide (0 ≤ x ∧ x ≤ hi ∧ p < x) && rise hi x r
theorem rise_l0 {l : List Int} {hi : Int} (hl : l.length ≤ 2000000) (r : List Int) : ∀ (k i : Nat) (p : Int), l.drop i = r → r.length < k → (if i = 0 then p = -1 else l[i - 1]? = some p) →
    spec_l1Rising.l0 k l 0 hi l (l.length : Int) (i : Int) = some (rise hi p r) := by
  induction r with
  | nil =>
    intro k i p hd hk hp
    obtain ⟨k, rfl⟩ : ∃ m, k = m + 1 := ⟨k - 1, by omega⟩
    have : l.length ≤ i := List.drop_eq_nil_iff.1 hd
    simp only [spec_l1Rising.l0]
    rw [if_neg (by omega)]; rfl
  | cons x r ih =>
    intro k i p hd hk hp
    obtain ⟨k, rfl⟩ : ∃ m, k = m + 1 := ⟨k - 1, by omega⟩
    obtain ⟨h2, h3, h4⟩ := getElem?_drop_cons hd
    have hk' : r.length < k := by simp at hk; omega
    have h := ih k (i + 1) x h3 hk' (by rw [if_neg (by omega)]; exact h2)
    simp only [spec_l1Rising.l0, spec_l1In.f]
    rw [if_pos (by omega), if_pos (by omega), if_pos (by omega), rd_nat h2, w64 (x := (i : Int) + 1) (by omega) (by omega), show ((i : Int) + 1) = ((i + 1 : Nat) : Int) by omega, h]
    by_cases q0 : x ≥ 0
    · by_cases q1 : x ≤ hi
      · by_cases q2 : i = 0
        · subst q2
          rw [if_pos rfl] at hp
          have hp' : p < x := by omega
          rw [if_pos q0]
          simp [rise, q0, q1, hp']
        · rw [if_neg q2] at hp
          rw [if_pos q0]
          have e : wrap64 ((i : Int) - 1) = ((i - 1 : Nat) : Int) := by rw [w64 (by omega) (by omega)]; omega
          rw [e, rd_nat hp]
          have g1 : ((i - 1 : Nat) : Int) < (l.length : Int) := by omega
          have g2 : (i : Int) > 0 := by omega
          have g3 : (0 : Int) ≤ ((i - 1 : Nat) : Int) := by omega
          by_cases q3 : p < x
          · have : ¬ p ≥ x := by omega
            simp only [q1, decide_true, Option.bind_some, if_true, g2, g3, g1, this, if_false]
            simp [rise, q0, q1, q3]
          · have : p ≥ x := by omega
            simp only [q1, decide_true, Option.bind_some, if_true, g2, g3, g1, this]
            simp [rise, q3]
      · rw [if_pos q0]
        simp [rise, q1]
    · rw [if_neg q0]
      simp [rise, q0]
theorem l1Rising {l : List Int} {hi : Int} {k : Nat} (hl : l.length ≤ 2000000) (hk : l.length < k) : spec_l1Rising.f k l 0 hi = some (rise hi (-1) l) := by
  unfold spec_l1Rising.f
  have := rise_l0 (hi := hi) hl l k 0 (-1) (by simp) hk (by simp)
  simpa using this
theorem isSet_eq (a0 : Int) (l m : List Int) (n : Int) : ∀ (k : Nat) (i : Int), impl_isSet.l0 k a0 l m n i = spec_l1Rising.l0 k l 0 (wrap64 (a0 - 1)) m n i := by
  intro k
  induction k with
  | zero => intro i; rfl
  | succ k ih =>
    intro i
    simp only [impl_isSet.l0, spec_l1Rising.l0, ih, impl_in.f, spec_l1In.f]
theorem isSet {l : List Int} {a0 : Int} {k : Nat} (hl : l.length ≤ 2000000) (hk : l.length < k) : impl_isSet.f k a0 l = some (rise (wrap64 (a0 - 1)) (-1) l) := by
  rw [← l1Rising hl hk]
  unfold impl_isSet.f spec_l1Rising.f
  exact isSet_eq _ _ _ _ _ _
theorem rise_nat {hi : Int} : ∀ {l : List Int} {p : Int}, -1 ≤ p → rise hi p l = true → ∃ ns : List Nat, l = ns.map Int.ofNat ∧ ns.Pairwise (· < ·) ∧ ∀ x ∈ ns, p < (x : Int) ∧ (x : Int) ≤ hi
  | [], p, _, _ => ⟨[], rfl, .nil, by simp⟩
  | x :: r, p, hp, h => by
    simp only [rise, Bool.and_eq_true, decide_eq_true_eq] at h
    obtain ⟨⟨h1, h2, h3⟩, h4⟩ := h
    obtain ⟨ns, rfl, h5, h6⟩ := rise_nat (p := x) (by omega) h4
    obtain ⟨y, rfl⟩ := Int.eq_ofNat_of_zero_le h1
    refine ⟨y :: ns, rfl, List.pairwise_cons.2 ⟨fun z hz => by have := (h6 z hz).1; omega, h5⟩, ?_⟩
    intro z hz
    rcases List.mem_cons.1 hz with rfl | hz
    · exact ⟨h3, h2⟩
    · have := h6 z hz; omega
theorem nat_rise {hi : Int} : ∀ {ns : List Nat} {p : Int}, ns.Pairwise (· < ·) → (∀ x ∈ ns, p < (x : Int) ∧ (x : Int) ≤ hi) → rise hi p (ns.map Int.ofNat) = true
  | [], p, _, _ => rfl
  | x :: r, p, hp, h => by
    obtain ⟨h1, h2⟩ := List.pairwise_cons.1 hp
    have hx := h x (by simp)
    simp only [List.map_cons, rise, Bool.and_eq_true, decide_eq_true_eq]
    refine ⟨⟨by simp, hx.2, hx.1⟩, nat_rise h2 (fun z hz => ⟨?_, (h z (by simp [hz])).2⟩)⟩
    have := h1 z hz
    simp; omega
/-- a set or choice of numbers less than s -/
def Asc (s : Nat) (ns : List Nat) : Prop := ns.Pairwise (· < ·) ∧ ∀ x ∈ ns, x < s
theorem rise_asc {s : Nat} {l : List Int} (h : rise ((s : Int) - 1) (-1) l = true) : ∃ ns : List Nat, l = ns.map Int.ofNat ∧ Asc s ns := by
  obtain ⟨ns, h1, h2, h3⟩ := rise_nat (by omega) h
  exact ⟨ns, h1, h2, fun x hx => by have := h3 x hx; omega⟩
theorem asc_rise {s : Nat} {ns : List Nat} (h : Asc s ns) : rise ((s : Int) - 1) (-1) (ns.map Int.ofNat) = true :=
  nat_rise h.1 (fun x hx => by have := h.2 x hx; omega)
theorem asc_length {s : Nat} {ns : List Nat} (h : Asc s ns) : ns.length ≤ s := by
  obtain ⟨bs, h1, h2⟩ := M.idxs_of (s := s) (o := 0) h.1 (fun x hx => ⟨by omega, by have := h.2 x hx; omega⟩)
  have : ∀ (bs : List Bool) (o : Nat), (M.idxs o bs).length ≤ bs.length := by
    intro bs
    induction bs with
    | nil => intro o; simp [M.idxs]
    | cons b r ih => intro o; rw [M.idxs]; have := ih (o + 1); split <;> simp <;> omega
  have := this bs 0
  rw [h2] at this; omega
theorem p2sum_lt {s : Nat} {ns : List Nat} (h : Asc s ns) : M.p2sum ns < 2 ^ s := by
  obtain ⟨bs, h1, h2⟩ := M.idxs_of (s := s) (o := 0) h.1 (fun x hx => ⟨by omega, by have := h.2 x hx; omega⟩)
  have := M.p2sum_idxs 0 bs
  rw [h2, Nat.pow_zero, Nat.one_mul] at this
  rw [this, ← h1]; exact M.val_lt bs

end Go.Proofs.Ytomaodhlcacobaa.Pure
