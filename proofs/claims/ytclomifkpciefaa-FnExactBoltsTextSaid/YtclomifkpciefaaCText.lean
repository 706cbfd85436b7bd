/- What the printed texts of bolts are. -/
import Derived.Test.YtclomifkpciefaaCx0
import Derived.Test.YtclomifkpciefaaCx7
import Derived.Test.YtclomifkpciefaaCx8
import Derived.Test.YtclomifkpciefaaCBolts
set_option linter.unusedVariables false
set_option linter.unusedSimpArgs false
namespace Go.Proofs.Ytclomifkpciefaa.Pure
open Go.RowKit Go.Proofs.Ytclomifkpciefaa.C Go.Proofs.YtclomifkpciefaaW.PrintWords Go.Proofs.YtclomifkpciefaaW.PrintLast Go.Proofs.YtclomifkpciefaaW.PrintMore

/-- bolts that are some: places and blocks are digits -/
theorem gd_facts {l0 : List Int} {l1 : List S67} (h : gd l0 l1 = true) : (1 ≤ l0.length ∧ l0.length ≤ 6) ∧ (∀ x ∈ l0, 2 ≤ x ∧ x ≤ 5) ∧ l1.length ≤ 40 ∧ ∀ x ∈ l1, ob l0 x = true := by
  unfold gd at h
  simp only [Bool.and_eq_true, decide_eq_true_eq, List.all_eq_true] at h
  obtain ⟨h1, h2, h3, h4, h5⟩ := h
  exact ⟨by omega, h2, by omega, h5⟩
theorem rd_mem {l : List Int} {i : Int} (h : 0 ≤ i ∧ i < (l.length : Int)) : rd l i ∈ l := by
  obtain ⟨n, rfl⟩ := Int.eq_ofNat_of_zero_le h.1
  have hn : n < l.length := by omega
  rw [rd_nat (List.getElem?_eq_getElem hn)]
  exact List.getElem_mem _
theorem ob_facts {l0 : List Int} (hl : l0.length ≤ 6) (hp : ∀ x ∈ l0, 2 ≤ x ∧ x ≤ 5) {x : S67} (h : ob l0 x = true) :
    (0 ≤ x.f0 ∧ x.f0 < (l0.length : Int)) ∧ (0 ≤ x.f2 ∧ x.f2 < (l0.length : Int)) ∧ x.f0 ≠ x.f2 ∧ (0 ≤ x.f1 ∧ x.f1 ≤ rd l0 x.f0 - 1) ∧ (0 ≤ x.f3 ∧ x.f3 ≤ rd l0 x.f2 - 1) := by
  unfold ob at h
  simp only [Bool.and_eq_true, decide_eq_true_eq, Bool.not_eq_true', decide_eq_false_iff_not] at h
  obtain ⟨h1, h2, h3, h4, h5⟩ := h
  have m0 := hp _ (rd_mem (l := l0) (i := x.f0) ⟨h1.1, by omega⟩)
  have m2 := hp _ (rd_mem (l := l0) (i := x.f2) ⟨h2.1, by omega⟩)
  rw [w64 (by omega) (by omega)] at h4
  rw [w64 (by omega) (by omega)] at h5
  exact ⟨⟨h1.1, by omega⟩, ⟨h2.1, by omega⟩, h3, h4, h5⟩

/-! texts of bolts -/
/-- a sign for a digit, as a number -/
def dg (x : Int) : Int := (48 + x) % 256
theorem strOfNums_app (a b : List Int) : strOfNums (a ++ b) = strOfNums a ++ strOfNums b := by
  unfold strOfNums
  apply ByteArray.ext
  simp [ByteArray.data_append]
theorem strOfNums_size (a : List Int) : (strOfNums a).size = a.length := by unfold strOfNums; simp [ByteArray.size]
theorem l1Num_dg {x : Int} {k : Nat} (h : 0 ≤ x ∧ x < 10) (hk : 0 < k) : spec_l1Num.f k x = some (strOfNums [dg x]) := by
  obtain ⟨k, rfl⟩ : ∃ m, k = m + 1 := ⟨k - 1, by omega⟩
  rw [spec_l1Num.f, if_pos h.2, w64 (by omega) (by omega)]; rfl
theorem digits_l0 {l : List Int} (hl : l.length ≤ 2000000) (r : List Int) : ∀ (k i : Nat) (acc : List Int), l.drop i = r → acc.length ≤ i → r.length < k →
    impl_digits.l0 k acc l (l.length : Int) (i : Int) = some (strOfNums (acc ++ r.map dg)) := by
  induction r with
  | nil =>
    intro k i acc hd ha hk
    obtain ⟨k, rfl⟩ : ∃ m, k = m + 1 := ⟨k - 1, by omega⟩
    have : l.length ≤ i := List.drop_eq_nil_iff.1 hd
    rw [impl_digits.l0, if_neg (by omega)]; simp
  | cons x r ih =>
    intro k i acc hd ha hk
    obtain ⟨k, rfl⟩ : ∃ m, k = m + 1 := ⟨k - 1, by omega⟩
    obtain ⟨h2, h3, h4⟩ := getElem?_drop_cons hd
    rw [impl_digits.l0, if_pos (by omega), if_pos (by omega), if_pos (by omega), if_pos (by omega), rd_nat h2, w64 (by omega) (by omega), show ((i : Int) + 1) = ((i + 1 : Nat) : Int) by omega]
    rw [ih k (i + 1) _ h3 (by simp; omega) (by simp at hk; omega)]
    simp [dg]
theorem digits {l : List Int} {k : Nat} (hl : l.length ≤ 2000000) (hk : l.length < k) : impl_digits.f k l = some (strOfNums (l.map dg)) := by
  unfold impl_digits.f
  have := digits_l0 hl l k 0 [] (by simp) (by simp) hk
  rwa [List.nil_append] at this
/-- a block's numbers are digits -/
def dgs (x : S67) : Prop := (0 ≤ x.f0 ∧ x.f0 < 10) ∧ (0 ≤ x.f1 ∧ x.f1 < 10) ∧ (0 ≤ x.f2 ∧ x.f2 < 10) ∧ (0 ≤ x.f3 ∧ x.f3 < 10)
/-- a block as signs -/
def bs (x : S67) : List Int := [59, dg x.f0, dg x.f1, dg x.f2, dg x.f3]
theorem semi : (⟨#[59]⟩ : ByteArray) = strOfNums [59] := rfl
theorem flat_length (r : List S67) : (r.flatMap bs).length = 5 * r.length := by
  induction r with
  | nil => rfl
  | cons x r ih => rw [List.flatMap_cons, List.length_append, ih]; simp [bs]; omega
theorem boText_l1 {l : List S67} (hl : l.length ≤ 2000000) (r : List S67) : ∀ (k i : Nat) (acc : List Int), l.drop i = r → (∀ x ∈ r, dgs x) → acc.length ≤ 100000000 + 5 * i → r.length + 1 < k →
    spec_boText.l1 k (strOfNums acc) l (l.length : Int) (i : Int) = some (strOfNums (acc ++ r.flatMap bs)) := by
  induction r with
  | nil =>
    intro k i acc hd _ ha hk
    obtain ⟨k, rfl⟩ : ∃ m, k = m + 1 := ⟨k - 1, by omega⟩
    have : l.length ≤ i := List.drop_eq_nil_iff.1 hd
    rw [spec_boText.l1, if_neg (by omega)]; simp
  | cons x r ih =>
    intro k i acc hd hr ha hk
    obtain ⟨k, rfl⟩ : ∃ m, k = m + 1 := ⟨k - 1, by omega⟩
    obtain ⟨h2, h3, h4⟩ := getElem?_drop_cons hd
    obtain ⟨g0, g1, g2, g3⟩ := hr x (by simp)
    rw [spec_boText.l1, if_pos (by omega), if_pos (by omega), if_pos (by omega), rdT h2, l1Num_dg g0 (by omega), l1Num_dg g1 (by omega), l1Num_dg g2 (by omega), l1Num_dg g3 (by omega)]
    simp only [Option.bind_some, semi, ← strOfNums_app, strOfNums_size]
    rw [if_pos (by simp), if_pos (by simp), if_pos (by simp), if_pos (by simp), if_pos (by simp; omega), w64 (by omega) (by omega), show ((i : Int) + 1) = ((i + 1 : Nat) : Int) by omega]
    rw [ih k (i + 1) _ h3 (fun y hy => hr y (by simp [hy])) (by simp; omega) (by simp at hk; omega)]
    simp [bs]
theorem boText_l0 {l0 : List Int} {l1 : List S67} (hl0 : l0.length ≤ 2000000) (hl : l1.length ≤ 2000000) (h1 : ∀ x ∈ l1, dgs x) (r : List Int) : ∀ (k i : Nat) (acc : List Int), l0.drop i = r → (∀ x ∈ r, 0 ≤ x ∧ x < 10) → acc.length ≤ i → i ≤ l0.length → r.length + l1.length + 3 < k →
    spec_boText.l0 k (strOfNums acc) l0 (l0.length : Int) (i : Int) l0 l1 = some (strOfNums (acc ++ r.map dg ++ l1.flatMap bs)) := by
  induction r with
  | nil =>
    intro k i acc hd _ ha hil hk
    obtain ⟨k, rfl⟩ : ∃ m, k = m + 1 := ⟨k - 1, by omega⟩
    have : l0.length ≤ i := List.drop_eq_nil_iff.1 hd
    rw [spec_boText.l0, if_neg (by omega)]
    have := boText_l1 hl l1 k 0 acc (by simp) h1 (by omega) (by simp at hk; omega)
    simpa using this
  | cons x r ih =>
    intro k i acc hd hr ha hil hk
    obtain ⟨k, rfl⟩ : ∃ m, k = m + 1 := ⟨k - 1, by omega⟩
    obtain ⟨h2, h3, h4⟩ := getElem?_drop_cons hd
    rw [spec_boText.l0, if_pos (by omega), if_pos (by omega), if_pos (by omega), rd_nat h2, l1Num_dg (hr x (by simp)) (by omega)]
    simp only [Option.bind_some, ← strOfNums_app, strOfNums_size]
    rw [if_pos (by simp; omega), w64 (by omega) (by omega), show ((i : Int) + 1) = ((i + 1 : Nat) : Int) by omega]
    rw [ih k (i + 1) _ h3 (fun y hy => hr y (by simp [hy])) (by simp; omega) (by omega) (by simp at hk; omega)]
    simp
theorem implText_l0 {l : List S67} (hl : l.length ≤ 2000000) (r : List S67) : ∀ (k i : Nat) (acc : List Int), l.drop i = r → (∀ x ∈ r, dgs x) → acc.length ≤ 100000000 + 5 * i → r.length + 5 < k →
    impl_BoltsText.l0 k (strOfNums acc) l (l.length : Int) (i : Int) = some (strOfNums (acc ++ r.flatMap bs), true) := by
  induction r with
  | nil =>
    intro k i acc hd _ ha hk
    obtain ⟨k, rfl⟩ : ∃ m, k = m + 1 := ⟨k - 1, by omega⟩
    have : l.length ≤ i := List.drop_eq_nil_iff.1 hd
    rw [impl_BoltsText.l0, if_neg (by omega)]; simp
  | cons x r ih =>
    intro k i acc hd hr ha hk
    obtain ⟨k, rfl⟩ : ∃ m, k = m + 1 := ⟨k - 1, by omega⟩
    obtain ⟨h2, h3, h4⟩ := getElem?_drop_cons hd
    rw [impl_BoltsText.l0, if_pos (by omega), if_pos (by omega), if_pos (by omega), rdT h2, digits (by simp) (by simp at hk ⊢; omega)]
    simp only [Option.bind_some, semi, ← strOfNums_app, strOfNums_size]
    rw [if_pos (by simp), if_pos (by simp; omega), w64 (by omega) (by omega), show ((i : Int) + 1) = ((i + 1 : Nat) : Int) by omega]
    rw [ih k (i + 1) _ h3 (fun y hy => hr y (by simp [hy])) (by simp; omega) (by simp at hk; omega)]
    simp [bs]
theorem ob_dgs {l0 : List Int} (hl : l0.length ≤ 6) (hp : ∀ x ∈ l0, 2 ≤ x ∧ x ≤ 5) {x : S67} (h : ob l0 x = true) : dgs x := by
  obtain ⟨h1, h2, h3, h4, h5⟩ := ob_facts hl hp h
  have m0 := hp _ (rd_mem (l := l0) (i := x.f0) h1)
  have m2 := hp _ (rd_mem (l := l0) (i := x.f2) h2)
  exact ⟨by omega, by omega, by omega, by omega⟩

end Go.Proofs.Ytclomifkpciefaa.Pure
