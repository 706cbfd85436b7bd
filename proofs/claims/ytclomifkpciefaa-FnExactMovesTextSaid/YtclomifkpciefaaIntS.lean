/- What the law's helpers on lists of numbers give. -/
import Derived.Test.YtclomifkpciefaaAx1
import Derived.Test.YtclomifkpciefaaAx2
import Derived.Test.YtclomifkpciefaaAx3
import Derived.Test.YtclomifkpciefaaAx8
import Derived.Test.YtclomifkpciefaaNum
set_option linter.unusedVariables false
set_option linter.unusedSimpArgs false
namespace Go.Proofs.Ytclomifkpciefaa.Pure
open Go.RowKit Go.Proofs.Ytclomifkpciefaa.A Go.Proofs.YtclomifkpciefaaW.PrintWords Go.Proofs.YtclomifkpciefaaW.PrintLast Go.Proofs.YtclomifkpciefaaW.PrintMore

/-! lists of numbers -/
theorem rd_nat {l : List Int} {i : Nat} {x : Int} (h : l[i]? = some x) : rd l (i : Int) = x := by
  unfold rd; rw [Int.toNat_natCast, List.getD, h]; rfl
def mk : Int → Nat → List Int
  | _, 0 => []
  | m, d + 1 => m :: mk (m + 1) d
theorem mk_length (m : Int) (d : Nat) : (mk m d).length = d := by
  induction d generalizing m with
  | zero => rfl
  | succ d ih => simp [mk, ih]
theorem getElem?_drop_cons {α : Type} {l r : List α} {i : Nat} {x : α} (h : l.drop i = x :: r) : l[i]? = some x ∧ l.drop (i + 1) = r ∧ i < l.length := by
  have h1 : (l.drop i)[0]? = some x := by rw [h]; rfl
  rw [List.getElem?_drop, Nat.add_zero] at h1
  refine ⟨h1, ?_, (List.getElem?_eq_some_iff.1 h1).1⟩
  rw [← List.drop_drop, h]; rfl
theorem drop_cons {α : Type} {l : List α} {i : Nat} (h : i < l.length) : ∃ x r, l.drop i = x :: r := ⟨l[i], l.drop (i + 1), List.drop_eq_getElem_cons h⟩

theorem eqIntS_l0 {a b : List Int} (hl : a.length = b.length) (hb : a.length ≤ 281474976710656) (d : Nat) : ∀ (k i : Nat), i + d = a.length → d < k → a.take i = b.take i →
    laws_eqIntS.l0 k a b (i : Int) = some (decide (a = b)) := by
  induction d with
  | zero =>
    intro k i hi hk ht
    obtain ⟨k, rfl⟩ : ∃ m, k = m + 1 := ⟨k - 1, by omega⟩
    simp only [laws_eqIntS.l0]
    rw [if_neg (by omega)]
    rw [List.take_of_length_le (by omega), List.take_of_length_le (by omega)] at ht
    simp [ht]
  | succ d ih =>
    intro k i hi hk ht
    obtain ⟨k, rfl⟩ : ∃ m, k = m + 1 := ⟨k - 1, by omega⟩
    have ha : a[i]? = some a[i] := List.getElem?_eq_getElem (by omega)
    have hb' : b[i]? = some b[i] := List.getElem?_eq_getElem (by omega)
    simp only [laws_eqIntS.l0]
    rw [if_pos (by omega), if_pos (by omega), if_pos (by omega), rd_nat ha, rd_nat hb', w64 (by omega) (by omega)]
    by_cases e : a[i] = b[i]
    · rw [if_pos e, show ((i : Int) + 1) = ((i + 1 : Nat) : Int) by omega]
      exact ih k (i + 1) (by omega) (by omega) (by rw [List.take_add_one, List.take_add_one, ht, ha, hb', e])
    · rw [if_neg e]
      have : a ≠ b := by rintro rfl; exact e rfl
      simp [this]
theorem eqIntS {a b : List Int} {k : Nat} (ha : a.length ≤ 281474976710656) (hk : a.length < k) : laws_eqIntS.f k a b = some (decide (a = b)) := by
  unfold laws_eqIntS.f
  by_cases e : a.length = b.length
  · rw [if_pos (by omega)]
    exact eqIntS_l0 e ha a.length k 0 (by omega) hk (by simp)
  · rw [if_neg (by omega)]
    have : a ≠ b := by rintro rfl; exact e rfl
    simp [this]
theorem markIntS_l0 (d : Nat) : ∀ (k i : Nat) (x : List Int) (m : Int), i + d = x.length → x.length ≤ 281474976710656 → 0 ≤ m → m + d ≤ 4000000000000000000 → d < k →
    laws_markIntS.l0 k x m (i : Int) = some (m + d, x.take i ++ mk m d) := by
  induction d with
  | zero =>
    intro k i x m hi hx h0 h1 hk
    obtain ⟨k, rfl⟩ : ∃ m, k = m + 1 := ⟨k - 1, by omega⟩
    simp only [laws_markIntS.l0]
    rw [if_neg (by omega), List.take_of_length_le (by omega)]
    simp [mk]
  | succ d ih =>
    intro k i x m hi hx h0 h1 hk
    obtain ⟨k, rfl⟩ : ∃ m, k = m + 1 := ⟨k - 1, by omega⟩
    simp only [laws_markIntS.l0]
    rw [if_pos (by omega), if_pos (by omega), w64 (by omega) (by omega), w64 (by omega) (by omega), Int.toNat_natCast, show ((i : Int) + 1) = ((i + 1 : Nat) : Int) by omega]
    rw [ih k (i + 1) (x.set i m) (m + 1) (by simp; omega) (by simpa using hx) (by omega) (by omega) (by omega)]
    congr 2
    · omega
    · rw [mk, List.take_add_one, List.take_set_of_le (Nat.le_refl i), List.getElem?_set_self (by omega)]; simp
theorem markIntS {l : List Int} {k : Nat} (hl : l.length ≤ 281474976710656) (hk : l.length < k) : laws_markIntS.f k l 1 = some (1 + (l.length : Int), mk 1 l.length) := by
  unfold laws_markIntS.f
  have := markIntS_l0 l.length k 0 l 1 (by omega) hl (by omega) (by omega) hk
  simpa using this
theorem heldIntS_l0 (d : Nat) : ∀ (k i : Nat) (x : List Int) (m : Int), i + d = x.length → x.drop i = mk m d → x.length ≤ 281474976710656 → 0 ≤ m → m + d ≤ 4000000000000000000 → d < k →
    laws_heldIntS.l0 k x m (i : Int) = some (m + d) := by
  induction d with
  | zero =>
    intro k i x m hi hd hx h0 h1 hk
    obtain ⟨k, rfl⟩ : ∃ m, k = m + 1 := ⟨k - 1, by omega⟩
    simp only [laws_heldIntS.l0]
    rw [if_neg (by omega)]; simp
  | succ d ih =>
    intro k i x m hi hd hx h0 h1 hk
    obtain ⟨k, rfl⟩ : ∃ m, k = m + 1 := ⟨k - 1, by omega⟩
    obtain ⟨h2, h3, h4⟩ := getElem?_drop_cons hd
    simp only [laws_heldIntS.l0]
    rw [if_pos (by omega), if_pos (by omega), rd_nat h2, if_pos rfl, w64 (by omega) (by omega), w64 (by omega) (by omega), show ((i : Int) + 1) = ((i + 1 : Nat) : Int) by omega]
    rw [ih k (i + 1) x (m + 1) (by omega) h3 hx (by omega) (by omega) (by omega)]
    congr 1; omega
theorem heldIntS {n k : Nat} (hl : n ≤ 281474976710656) (hk : n < k) : laws_heldIntS.f k (mk 1 n) 1 = some (1 + (n : Int)) := by
  unfold laws_heldIntS.f
  exact heldIntS_l0 n k 0 (mk 1 n) 1 (by simp [mk_length]) rfl (by simpa [mk_length] using hl) (by omega) (by omega) hk

theorem toIntS_l0 (d : Nat) : ∀ (k i : Nat) (x y : List Int), i + d = x.length → y.length = x.length → x.length ≤ 281474976710656 → d < k →
    laws_toIntS.l0 k x y (i : Int) = some (y.take i ++ x.drop i) := by
  induction d with
  | zero =>
    intro k i x y hi hy hx hk
    obtain ⟨k, rfl⟩ : ∃ m, k = m + 1 := ⟨k - 1, by omega⟩
    simp only [laws_toIntS.l0]
    rw [if_neg (by omega), List.take_of_length_le (by omega), List.drop_of_length_le (by omega), List.append_nil]
  | succ d ih =>
    intro k i x y hi hy hx hk
    obtain ⟨k, rfl⟩ : ∃ m, k = m + 1 := ⟨k - 1, by omega⟩
    obtain ⟨a, r, ha⟩ := drop_cons (l := x) (i := i) (by omega)
    obtain ⟨h2, h3, h4⟩ := getElem?_drop_cons ha
    simp only [laws_toIntS.l0]
    rw [if_pos (by omega), if_pos (by omega), if_pos (by omega), rd_nat h2, w64 (by omega) (by omega), Int.toNat_natCast, show ((i : Int) + 1) = ((i + 1 : Nat) : Int) by omega]
    rw [ih k (i + 1) x (y.set i a) (by omega) (by simpa using hy) hx (by omega)]
    rw [ha, h3, List.take_add_one, List.take_set_of_le (Nat.le_refl i), List.getElem?_set_self (by omega)]; simp
theorem toIntS {l : List Int} {k : Nat} (hl : l.length ≤ 2000000) (hk : l.length < k) : laws_toIntS.f k l = some l := by
  unfold laws_toIntS.f
  rw [if_pos (by omega), Int.toNat_natCast, if_pos (by omega)]
  have := toIntS_l0 l.length k 0 l (List.replicate l.length 0) (by omega) (by simp) (by omega) hk
  simpa using this

end Go.Proofs.Ytclomifkpciefaa.Pure
