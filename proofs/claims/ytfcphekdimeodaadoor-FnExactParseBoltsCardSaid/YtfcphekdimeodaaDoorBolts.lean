/- What the printed functions of bolts give. -/
import Derived.Test.YtfcphekdimeodaaDoorAx0
import Derived.Test.YtfcphekdimeodaaDoorAx1
import Derived.Test.YtfcphekdimeodaaDoorAx2
import Derived.Test.YtfcphekdimeodaaDoorAx3
import Derived.Test.YtfcphekdimeodaaDoorAx4
import Derived.Test.YtfcphekdimeodaaDoorAx5
import Derived.Test.YtfcphekdimeodaaDoorAx6
import Derived.Test.YtfcphekdimeodaaDoorAx7
import Derived.Test.YtfcphekdimeodaaDoorAx8
import Derived.Test.YtfcphekdimeodaaDoorNum
set_option linter.unusedVariables false
set_option linter.unusedSimpArgs false
namespace Go.Proofs.YtfcphekdimeodaaDoor.Pure
open Go.RowKit Go.Proofs.YtfcphekdimeodaaDoor.A Go.Proofs.YtfcphekdimeodaaDoorW.PrintWords Go.Proofs.YtfcphekdimeodaaDoorW.PrintLast Go.Proofs.YtfcphekdimeodaaDoorW.PrintMore

theorem eqIntS_l0 {a b : List Int} (hl : a.length = b.length) (hb : a.length ≤ 281474976710656) (d : Nat) : ∀ (k i : Nat), i + d = a.length → d < k → a.take i = b.take i →
    laws_eqIntS.l0 k a b (i : Int) = some (decide (a = b)) := by
  induction d with
  | zero =>
    intro k i hi hk ht
    obtain ⟨k, rfl⟩ : ∃ m, k = m + 1 := ⟨k - 1, by omega⟩
    simp only [laws_eqIntS.l0]
    rw [if_neg (by omega)]
    rw [List.take_of_length_le (by omega), List.take_of_length_le (by omega)] at ht
    simp [ht]
  | succ d ih =>
    intro k i hi hk ht
    obtain ⟨k, rfl⟩ : ∃ m, k = m + 1 := ⟨k - 1, by omega⟩
    have ha : a[i]? = some a[i] := List.getElem?_eq_getElem (by omega)
    have hb' : b[i]? = some b[i] := List.getElem?_eq_getElem (by omega)
    simp only [laws_eqIntS.l0]
    rw [if_pos (by omega), if_pos (by omega), if_pos (by omega), rd_nat ha, rd_nat hb', w64 (by omega) (by omega)]
    by_cases e : a[i] = b[i]
    · rw [if_pos e, show ((i : Int) + 1) = ((i + 1 : Nat) : Int) by omega]
      exact ih k (i + 1) (by omega) (by omega) (by rw [List.take_add_one, List.take_add_one, ht, ha, hb', e])
    · rw [if_neg e]
      have : a ≠ b := by rintro rfl; exact e rfl
      simp [this]
theorem eqIntS {a b : List Int} {k : Nat} (ha : a.length ≤ 281474976710656) (hk : a.length < k) : laws_eqIntS.f k a b = some (decide (a = b)) := by
  unfold laws_eqIntS.f
  by_cases e : a.length = b.length
  · rw [if_pos (by omega)]
    exact eqIntS_l0 e ha a.length k 0 (by omega) hk (by simp)
  · rw [if_neg (by omega)]
    have : a ≠ b := by rintro rfl; exact e rfl
    simp [this]
theorem markIntS_l0 (d : Nat) : ∀ (k i : Nat) (x : List Int) (m : Int), i + d = x.length → x.length ≤ 281474976710656 → 0 ≤ m → m + d ≤ 4000000000000000000 → d < k →
    laws_markIntS.l0 k x m (i : Int) = some (m + d, x.take i ++ mk m d) := by
  induction d with
  | zero =>
    intro k i x m hi hx h0 h1 hk
    obtain ⟨k, rfl⟩ : ∃ m, k = m + 1 := ⟨k - 1, by omega⟩
    simp only [laws_markIntS.l0]
    rw [if_neg (by omega), List.take_of_length_le (by omega)]
    simp [mk]
  | succ d ih =>
    intro k i x m hi hx h0 h1 hk
    obtain ⟨k, rfl⟩ : ∃ m, k = m + 1 := ⟨k - 1, by omega⟩
    simp only [laws_markIntS.l0]
    rw [if_pos (by omega), if_pos (by omega), w64 (by omega) (by omega), w64 (by omega) (by omega), Int.toNat_natCast, show ((i : Int) + 1) = ((i + 1 : Nat) : Int) by omega]
    rw [ih k (i + 1) (x.set i m) (m + 1) (by simp; omega) (by simpa using hx) (by omega) (by omega) (by omega)]
    congr 2
    · omega
    · rw [mk, List.take_add_one, List.take_set_of_le (Nat.le_refl i), List.getElem?_set_self (by omega)]; simp
theorem markIntS {l : List Int} {k : Nat} (hl : l.length ≤ 281474976710656) (hk : l.length < k) : laws_markIntS.f k l 1 = some (1 + (l.length : Int), mk 1 l.length) := by
  unfold laws_markIntS.f
  have := markIntS_l0 l.length k 0 l 1 (by omega) hl (by omega) (by omega) hk
  simpa using this
theorem heldIntS_l0 (d : Nat) : ∀ (k i : Nat) (x : List Int) (m : Int), i + d = x.length → x.drop i = mk m d → x.length ≤ 281474976710656 → 0 ≤ m → m + d ≤ 4000000000000000000 → d < k →
    laws_heldIntS.l0 k x m (i : Int) = some (m + d) := by
  induction d with
  | zero =>
    intro k i x m hi hd hx h0 h1 hk
    obtain ⟨k, rfl⟩ : ∃ m, k = m + 1 := ⟨k - 1, by omega⟩
    simp only [laws_heldIntS.l0]
    rw [if_neg (by omega)]; simp
  | succ d ih =>
    intro k i x m hi hd hx h0 h1 hk
    obtain ⟨k, rfl⟩ : ∃ m, k = m + 1 := ⟨k - 1, by omega⟩
    obtain ⟨h2, h3, h4⟩ := getElem?_drop_cons hd
    simp only [laws_heldIntS.l0]
    rw [if_pos (by omega), if_pos (by omega), rd_nat h2, if_pos rfl, w64 (by omega) (by omega), w64 (by omega) (by omega), show ((i : Int) + 1) = ((i + 1 : Nat) : Int) by omega]
    rw [ih k (i + 1) x (m + 1) (by omega) h3 hx (by omega) (by omega) (by omega)]
    congr 1; omega
theorem heldIntS {n k : Nat} (hl : n ≤ 281474976710656) (hk : n < k) : laws_heldIntS.f k (mk 1 n) 1 = some (1 + (n : Int)) := by
  unfold laws_heldIntS.f
  exact heldIntS_l0 n k 0 (mk 1 n) 1 (by simp [mk_length]) rfl (by simpa [mk_length] using hl) (by omega) (by omega) hk

theorem l1All_l0 {l : List Int} {lo hi : Int} (hl : l.length ≤ 2000000) (r : List Int) : ∀ (k i : Nat), l.drop i = r → r.length < k →
    spec_l1All.l0 k lo hi l (l.length : Int) (i : Int) = some (r.all fun x => decide (lo ≤ x ∧ x ≤ hi)) := by
  induction r with
  | nil =>
    intro k i hd hk
    obtain ⟨k, rfl⟩ : ∃ m, k = m + 1 := ⟨k - 1, by omega⟩
    have : l.length ≤ i := List.drop_eq_nil_iff.1 hd
    simp only [spec_l1All.l0]
    rw [if_neg (by omega)]; rfl
  | cons x r ih =>
    intro k i hd hk
    obtain ⟨k, rfl⟩ : ∃ m, k = m + 1 := ⟨k - 1, by omega⟩
    obtain ⟨h2, h3, h4⟩ := getElem?_drop_cons hd
    simp only [spec_l1All.l0, spec_l1In.f]
    rw [if_pos (by omega), if_pos (by omega), if_pos (by omega), rd_nat h2, w64 (x := (i : Int) + 1) (by omega) (by omega), show ((i : Int) + 1) = ((i + 1 : Nat) : Int) by omega]
    rw [ih k (i + 1) h3 (by simp at hk; omega)]
    by_cases q0 : x ≥ lo
    · have q0' : lo ≤ x := q0
      by_cases q1 : x ≤ hi
      · simp [q0', q1]
      · simp [q0', q1]
    · have q0' : ¬ lo ≤ x := q0
      simp [q0']
theorem l1All {l : List Int} {lo hi : Int} {k : Nat} (hl : l.length ≤ 2000000) (hk : l.length < k) : spec_l1All.f k l lo hi = some (l.all fun x => decide (lo ≤ x ∧ x ≤ hi)) := by
  unfold spec_l1All.f
  exact l1All_l0 hl l k 0 (by simp) hk

theorem in_val0 (n a b : Int) : impl_in.f n a b = some (decide (a ≤ n ∧ n ≤ b)) := by
  unfold impl_in.f
  by_cases h : n ≥ a
  · rw [if_pos h]; have h' : a ≤ n := h; simp [h']
  · rw [if_neg h]; have h' : ¬ a ≤ n := h; simp [h']
theorem in_dec0 (n a b : Int) : spec_l1In.f n a b = some (decide (a ≤ n ∧ n ≤ b)) := by
  unfold spec_l1In.f
  by_cases h : n ≥ a
  · rw [if_pos h]; have h' : a ≤ n := h; simp [h']
  · rw [if_neg h]; have h' : ¬ a ≤ n := h; simp [h']
/-! blocks -/
theorem isBlock_eq (l0 : List Int) (l1 : List S35) (a b c d : Int) : impl_Bolts_isBlock.f l0 l1 a b c d = spec_boBlock.f l0 l1 a b c d := by
  unfold impl_Bolts_isBlock.f spec_boBlock.f
  simp only [in_val0, in_dec0]
/-- a block that is one -/
def ob (l0 : List Int) (x : S35) : Bool := decide (0 ≤ x.f0 ∧ x.f0 ≤ (l0.length : Int) - 1) && (decide (0 ≤ x.f2 ∧ x.f2 ≤ (l0.length : Int) - 1) && (!(decide (x.f0 = x.f2)) && (decide (0 ≤ x.f1 ∧ x.f1 ≤ wrap64 (rd l0 x.f0 - 1)) && decide (0 ≤ x.f3 ∧ x.f3 ≤ wrap64 (rd l0 x.f2 - 1)))))
theorem boBlock_val {l0 : List Int} (l1 : List S35) (hl : l0.length ≤ 2000000) (x : S35) : spec_boBlock.f l0 l1 x.f0 x.f1 x.f2 x.f3 = some (ob l0 x) := by
  have ew : Aside0 (wrap64 ((l0.length : Int) - 1) = (l0.length : Int) - 1) := ⟨w64 (by omega) (by omega)⟩
  unfold spec_boBlock.f ob
  simp only [in_dec0]
  rw [ew.out]
  by_cases c1 : 0 ≤ x.f0 ∧ x.f0 ≤ (l0.length : Int) - 1
  · have d1 : x.f0 < (l0.length : Int) := by omega
    by_cases c2 : 0 ≤ x.f2 ∧ x.f2 ≤ (l0.length : Int) - 1
    · have d2 : x.f2 < (l0.length : Int) := by omega
      by_cases c3 : x.f0 = x.f2
      · simp [c1, c2, c3]
      · by_cases c4 : 0 ≤ x.f1 ∧ x.f1 ≤ wrap64 (rd l0 x.f0 - 1)
        · rw [decide_eq_true c1, decide_eq_true c2, decide_eq_true c4]
          simp only [Option.bind_some, if_true]
          rw [if_neg c3, if_pos c1.1, if_pos d1, if_pos c2.1, if_pos d2]
          simp [c3]
        · rw [decide_eq_true c1, decide_eq_true c2, decide_eq_false c4]
          simp only [Option.bind_some, if_true]
          rw [if_neg c3, if_pos c1.1, if_pos d1]
          simp
    · rw [decide_eq_true c1, decide_eq_false c2]; simp
  · rw [decide_eq_false c1]; simp
theorem isBlk_val {l0 : List Int} (l1 : List S35) (hl : l0.length ≤ 2000000) (x : S35) : isBlk l0 l1 x = some (ob l0 x) := by
  unfold isBlk
  rw [isBlock_eq, boBlock_val l1 hl]
theorem rdT {l : List S35} {i : Nat} {x : S35} (h : l[i]? = some x) : rd_T35 l (i : Int) = x := by
  unfold rd_T35; rw [Int.toNat_natCast, List.getD, h]; rfl
theorem boGood_l0 {l0 : List Int} {l1 : List S35} (hl0 : l0.length ≤ 2000000) (hl : l1.length ≤ 2000000) (r : List S35) : ∀ (k i : Nat), l1.drop i = r → r.length < k →
    spec_boGood.l0 k l1 (l1.length : Int) (i : Int) l0 l1 = some (r.all (ob l0)) := by
  induction r with
  | nil =>
    intro k i hd hk
    obtain ⟨k, rfl⟩ : ∃ m, k = m + 1 := ⟨k - 1, by omega⟩
    have : l1.length ≤ i := List.drop_eq_nil_iff.1 hd
    rw [spec_boGood.l0, if_neg (by omega)]; rfl
  | cons x r ih =>
    intro k i hd hk
    obtain ⟨k, rfl⟩ : ∃ m, k = m + 1 := ⟨k - 1, by omega⟩
    obtain ⟨h2, h3, h4⟩ := getElem?_drop_cons hd
    rw [spec_boGood.l0, if_pos (by omega), if_pos (by omega), if_pos (by omega), rdT h2, boBlock_val l1 hl0]
    simp only [Option.bind_some]
    rw [w64 (by omega) (by omega), show ((i : Int) + 1) = ((i + 1 : Nat) : Int) by omega, ih k (i + 1) h3 (by simp at hk; omega), List.all_cons]
    cases ob l0 x <;> rfl
/-! how many -/
def pr : Int → List Int → Int
  | x, [] => x
  | x, a :: r => pr (wrap64 (x * a)) r
theorem product_l0 {l : List Int} (hl : l.length ≤ 2000000) (r : List Int) : ∀ (k i : Nat) (x : Int), l.drop i = r → r.length < k →
    impl_product.l0 k x l (l.length : Int) (i : Int) = some (pr x r) := by
  induction r with
  | nil =>
    intro k i x hd hk
    obtain ⟨k, rfl⟩ : ∃ m, k = m + 1 := ⟨k - 1, by omega⟩
    have : l.length ≤ i := List.drop_eq_nil_iff.1 hd
    rw [impl_product.l0, if_neg (by omega)]; rfl
  | cons y r ih =>
    intro k i x hd hk
    obtain ⟨k, rfl⟩ : ∃ m, k = m + 1 := ⟨k - 1, by omega⟩
    obtain ⟨h2, h3, h4⟩ := getElem?_drop_cons hd
    rw [impl_product.l0, if_pos (by omega), if_pos (by omega), if_pos (by omega), rd_nat h2, w64 (x := (i : Int) + 1) (by omega) (by omega), show ((i : Int) + 1) = ((i + 1 : Nat) : Int) by omega, ih k (i + 1) _ h3 (by simp at hk; omega)]
    rfl
theorem product {l : List Int} {k : Nat} (hl : l.length ≤ 2000000) (hk : l.length < k) : impl_product.f k l = some (pr 1 l) := by
  unfold impl_product.f
  exact product_l0 hl l k 0 1 (by simp) hk
theorem count_eq (k : Nat) (l0 : List Int) (l1 : List S35) : spec_boCount.f k l0 l1 = impl_product.f k l0 := by
  have h : ∀ (k : Nat) (a : Int) (l : List Int) (b c : Int), spec_boCount.l0 k a l b c = impl_product.l0 k a l b c := by
    intro k
    induction k with
    | zero => intros; rfl
    | succ k ih => intro a l b c; rw [impl_product.l0, spec_boCount.l0, ih]
  exact h k 1 l0 _ 0
/-- bolts that are some -/
def gd (l0 : List Int) (l1 : List S35) : Bool := decide (1 ≤ (l0.length : Int) ∧ (l0.length : Int) ≤ 6) && ((l0.all fun x => decide (2 ≤ x ∧ x ≤ 5)) && (decide ((l1.length : Int) ≤ 40) && (decide (pr 1 l0 ≤ 1000) && l1.all (ob l0))))
theorem boGood {l0 : List Int} {l1 : List S35} {k : Nat} (hl0 : l0.length ≤ 2000000) (hl : l1.length ≤ 2000000) (hk : l0.length + l1.length + 2 < k) : spec_boGood.f k l0 l1 = some (gd l0 l1) := by
  obtain ⟨k, rfl⟩ : ∃ m, k = m + 1 := ⟨k - 1, by omega⟩
  unfold spec_boGood.f gd
  rw [in_dec0, l1All hl0 (by omega)]
  cases hq1 : decide (1 ≤ (l0.length : Int) ∧ (l0.length : Int) ≤ 6) with
  | false => rfl
  | true =>
    cases hq2 : (l0.all fun x => decide (2 ≤ x ∧ x ≤ 5)) with
    | false => rfl
    | true =>
      simp only [Option.bind_some, if_true, Bool.true_and]
      rw [spec_boGood.j0]
      by_cases c1 : (l1.length : Int) > 40
      · have c2 : ¬ (l1.length : Int) ≤ 40 := by omega
        rw [decide_eq_true c1, decide_eq_false c2]; rfl
      · have c2 : (l1.length : Int) ≤ 40 := by omega
        rw [decide_eq_false c1, decide_eq_true c2, count_eq, product hl0 (by omega)]
        simp only [Option.bind_some, Bool.false_eq_true, if_false, Bool.true_and]
        by_cases c3 : pr 1 l0 > 1000
        · have c4 : ¬ pr 1 l0 ≤ 1000 := by omega
          rw [if_pos c3, decide_eq_false c4]; rfl
        · have c4 : pr 1 l0 ≤ 1000 := by omega
          rw [if_neg c3, decide_eq_true c4]
          have := boGood_l0 (l0 := l0) hl0 hl l1 k 0 (by simp) (by omega)
          simpa using this
theorem areBolts {l0 : List Int} {l1 : List S35} {k : Nat} (hl0 : l0.length ≤ 2000000) (hk : l0.length < k) : impl_AreBolts.f k l0 l1 = some (gd l0 l1) := by
  have e2 : (l0.any fun n => !(decide (2 ≤ n ∧ n ≤ 5))) = !(l0.all fun x => decide (2 ≤ x ∧ x ≤ 5)) := by
    rw [List.any_eq_not_all_not]; simp
  have e3 : (l1.any fun x => !((isBlk l0 l1 x).getD false)) = !(l1.all (ob l0)) := by
    have : (fun x : S35 => !((isBlk l0 l1 x).getD false)) = fun x => !(ob l0 x) := by funext x; rw [isBlk_val l1 hl0]; rfl
    rw [this, List.any_eq_not_all_not]; simp
  have e4 : (l1.all fun x => (isBlk l0 l1 x).isSome) = true := by
    rw [List.all_eq_true]
    intro x _
    rw [isBlk_val l1 hl0]; rfl
  unfold impl_AreBolts.f gd
  rw [in_val0, product hl0 hk, e2, e3, e4]
  cases hq1 : decide (1 ≤ (l0.length : Int) ∧ (l0.length : Int) ≤ 6) with
  | false => rfl
  | true =>
    simp only [Option.bind_some, if_true, Bool.true_and]
    by_cases c1 : (l1.length : Int) > 40
    · have c2 : ¬ (l1.length : Int) ≤ 40 := by omega
      rw [if_pos c1, decide_eq_false c2]; simp
    · have c2 : (l1.length : Int) ≤ 40 := by omega
      rw [if_neg c1, decide_eq_true c2]
      cases hq2 : (l0.all fun x => decide (2 ≤ x ∧ x ≤ 5)) with
      | false => rfl
      | true =>
        simp only [Bool.not_true, Bool.false_eq_true, if_false, Bool.true_and, Bool.not_not]
        by_cases c3 : pr 1 l0 ≤ 1000
        · rw [if_pos c3, decide_eq_true c3]; simp
        · rw [if_neg c3, decide_eq_false c3]; simp
/-! the law's helpers -/
theorem eqBlockS_l0 {a : List S35} (hb : a.length ≤ 2000000) (d : Nat) : ∀ (k i : Nat), i + d = a.length → d < k → laws_eqBlockS.l0 k a a (i : Int) = some true := by
  induction d with
  | zero =>
    intro k i hi hk
    obtain ⟨k, rfl⟩ : ∃ m, k = m + 1 := ⟨k - 1, by omega⟩
    rw [laws_eqBlockS.l0, if_neg (by omega)]
  | succ d ih =>
    intro k i hi hk
    obtain ⟨k, rfl⟩ : ∃ m, k = m + 1 := ⟨k - 1, by omega⟩
    rw [laws_eqBlockS.l0, if_pos (by omega), if_pos (by omega), if_pos (by omega)]
    simp only [laws_eqBlock.f, if_true, Option.bind_some]
    rw [w64 (by omega) (by omega), show ((i : Int) + 1) = ((i + 1 : Nat) : Int) by omega]
    exact ih k (i + 1) (by omega) (by omega)
theorem eqBolts {l0 : List Int} {l1 : List S35} {k : Nat} (h0 : l0.length ≤ 2000000) (hl : l1.length ≤ 2000000) (hk : l0.length + l1.length < k) : laws_eqBolts.f k l0 l1 l0 l1 = some true := by
  unfold laws_eqBolts.f laws_eqBlockS.f
  rw [eqIntS (by omega) (by omega)]
  have := eqBlockS_l0 (a := l1) hl l1.length k 0 (by omega) (by omega)
  have h' : laws_eqBlockS.l0 k l1 l1 0 = some true := this
  simp [h']
/-- bolts that are some: places and blocks are digits -/
theorem gd_facts {l0 : List Int} {l1 : List S35} (h : gd l0 l1 = true) : (1 ≤ l0.length ∧ l0.length ≤ 6) ∧ (∀ x ∈ l0, 2 ≤ x ∧ x ≤ 5) ∧ l1.length ≤ 40 ∧ ∀ x ∈ l1, ob l0 x = true := by
  unfold gd at h
  simp only [Bool.and_eq_true, decide_eq_true_eq, List.all_eq_true] at h
  obtain ⟨h1, h2, h3, h4, h5⟩ := h
  exact ⟨by omega, h2, by omega, h5⟩
theorem rd_mem {l : List Int} {i : Int} (h : 0 ≤ i ∧ i < (l.length : Int)) : rd l i ∈ l := by
  obtain ⟨n, rfl⟩ := Int.eq_ofNat_of_zero_le h.1
  have hn : n < l.length := by omega
  rw [rd_nat (List.getElem?_eq_getElem hn)]
  exact List.getElem_mem _
theorem ob_facts {l0 : List Int} (hl : l0.length ≤ 6) (hp : ∀ x ∈ l0, 2 ≤ x ∧ x ≤ 5) {x : S35} (h : ob l0 x = true) :
    (0 ≤ x.f0 ∧ x.f0 < (l0.length : Int)) ∧ (0 ≤ x.f2 ∧ x.f2 < (l0.length : Int)) ∧ x.f0 ≠ x.f2 ∧ (0 ≤ x.f1 ∧ x.f1 ≤ rd l0 x.f0 - 1) ∧ (0 ≤ x.f3 ∧ x.f3 ≤ rd l0 x.f2 - 1) := by
  unfold ob at h
  simp only [Bool.and_eq_true, decide_eq_true_eq, Bool.not_eq_true', decide_eq_false_iff_not] at h
  obtain ⟨h1, h2, h3, h4, h5⟩ := h
  have m0 := hp _ (rd_mem (l := l0) (i := x.f0) ⟨h1.1, by omega⟩)
  have m2 := hp _ (rd_mem (l := l0) (i := x.f2) ⟨h2.1, by omega⟩)
  rw [w64 (by omega) (by omega)] at h4
  rw [w64 (by omega) (by omega)] at h5
  exact ⟨⟨h1.1, by omega⟩, ⟨h2.1, by omega⟩, h3, h4, h5⟩

end Go.Proofs.YtfcphekdimeodaaDoor.Pure
