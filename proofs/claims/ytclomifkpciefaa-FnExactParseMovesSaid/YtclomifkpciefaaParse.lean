/- What the printed readings of moves give. -/
import Derived.Test.YtclomifkpciefaaAx1
import Derived.Test.YtclomifkpciefaaAx12
import Derived.Test.YtclomifkpciefaaIntS
set_option linter.unusedVariables false
set_option linter.unusedSimpArgs false
namespace Go.Proofs.Ytclomifkpciefaa.Pure
open Go.RowKit Go.Proofs.Ytclomifkpciefaa.A Go.Proofs.YtclomifkpciefaaW.PrintWords Go.Proofs.YtclomifkpciefaaW.PrintLast Go.Proofs.YtclomifkpciefaaW.PrintMore

/-! texts of moves -/
def pOk (l : List UInt8) : Bool := l.all fun b => decide (97 ≤ b.toNat ∧ b.toNat ≤ 116)
def pNs (l : List UInt8) : List Int := l.map fun b => (b.toNat : Int) - 97
def pRes (l : List UInt8) : List Int × Bool := if pOk l then (pNs l, true) else ([], false)
theorem bt_drop {l r : List UInt8} {i : Nat} {b : UInt8} (h : l.drop i = b :: r) : bt (tx l) (i : Int) = (b.toNat : Int) := by
  rw [bt_tx, List.getD, (getElem?_drop_cons h).1]; rfl
theorem letter (b : UInt8) : wrap64 (wrap64 (b.toNat : Int) - 97) = (b.toNat : Int) - 97 := by
  have := b.toNat_lt
  rw [w64 (x := (b.toNat : Int)) (by omega) (by omega), w64 (by omega) (by omega)]
theorem specParse_l0 {l : List UInt8} (hl : l.length ≤ 2000) (r : List UInt8) : ∀ (k i : Nat) (acc : List Int), l.drop i = r → acc.length ≤ i → r.length < k →
    spec_riParse.l0 k (tx l) acc (i : Int) = some (if pOk r then (acc ++ pNs r, true) else ([], false)) := by
  induction r with
  | nil =>
    intro k i acc hd ha hk
    obtain ⟨k, rfl⟩ : ∃ m, k = m + 1 := ⟨k - 1, by omega⟩
    have : l.length ≤ i := List.drop_eq_nil_iff.1 hd
    rw [spec_riParse.l0, tx_size, if_neg (by omega)]
    simp [pOk, pNs]
  | cons b r ih =>
    intro k i acc hd ha hk
    obtain ⟨k, rfl⟩ : ∃ m, k = m + 1 := ⟨k - 1, by omega⟩
    obtain ⟨h2, h3, h4⟩ := getElem?_drop_cons hd
    rw [spec_riParse.l0, tx_size, if_pos (by omega), if_pos (by omega), bt_drop hd, letter, w64 (x := (i : Int) + 1) (by omega) (by omega), show ((i : Int) + 1) = ((i + 1 : Nat) : Int) by omega]
    rw [ih k (i + 1) _ h3 (by simp; omega) (by simp at hk; omega)]
    unfold spec_l1In.f
    by_cases q1 : 97 ≤ b.toNat
    · by_cases q2 : b.toNat ≤ 116
      · rw [if_pos (by omega), decide_eq_true (show ((b.toNat : Int) - 97 ≤ 19) by omega)]
        simp only [Option.bind_some, if_true]
        rw [if_pos (by omega)]
        have : pOk (b :: r) = pOk r := by simp [pOk, q1, q2]
        rw [this]
        cases pOk r <;> simp [pNs]
      · rw [if_pos (by omega), decide_eq_false (show ¬ ((b.toNat : Int) - 97 ≤ 19) by omega)]
        simp [pOk, q2]
    · rw [if_neg (by omega)]
      simp [pOk, q1]
theorem implParse_l0 {l : List UInt8} (hl : l.length ≤ 2000) (r : List UInt8) : ∀ (k i : Nat) (acc : List Int), l.drop i = r → acc.length ≤ i → r.length < k →
    impl_ParseMoves.l0 k (tx l) acc (l.length : Int) (i : Int) = some (if pOk r then (acc ++ pNs r, true) else ([], false)) := by
  induction r with
  | nil =>
    intro k i acc hd ha hk
    obtain ⟨k, rfl⟩ : ∃ m, k = m + 1 := ⟨k - 1, by omega⟩
    have : l.length ≤ i := List.drop_eq_nil_iff.1 hd
    rw [impl_ParseMoves.l0, if_neg (by omega)]
    simp [pOk, pNs]
  | cons b r ih =>
    intro k i acc hd ha hk
    obtain ⟨k, rfl⟩ : ∃ m, k = m + 1 := ⟨k - 1, by omega⟩
    obtain ⟨h2, h3, h4⟩ := getElem?_drop_cons hd
    rw [impl_ParseMoves.l0, tx_size, if_pos (by omega), if_pos (by omega), if_pos (by omega), bt_drop hd, letter, w64 (x := (i : Int) + 1) (by omega) (by omega), show ((i : Int) + 1) = ((i + 1 : Nat) : Int) by omega]
    rw [ih k (i + 1) _ h3 (by simp; omega) (by simp at hk; omega)]
    unfold impl_in.f
    by_cases q1 : 97 ≤ b.toNat
    · by_cases q2 : b.toNat ≤ 116
      · rw [if_pos (by omega), decide_eq_true (show ((b.toNat : Int) - 97 ≤ 19) by omega)]
        simp only [Option.bind_some, if_true]
        rw [if_pos (by omega)]
        have : pOk (b :: r) = pOk r := by simp [pOk, q1, q2]
        rw [this]
        cases pOk r <;> simp [pNs]
      · rw [if_pos (by omega), decide_eq_false (show ¬ ((b.toNat : Int) - 97 ≤ 19) by omega)]
        simp [pOk, q2]
    · rw [if_neg (by omega)]
      simp [pOk, q1]
/-- ParseMoves of a text -/
def parsed (l : List UInt8) : List Int × Bool := if l.length ≤ 2000 then pRes l else ([], false)
theorem specParse {l : List UInt8} {k : Nat} (hk : l.length < k) : spec_ParseMoves.f k (tx l) = some (parsed l) := by
  unfold spec_ParseMoves.f spec_riParse.f parsed
  by_cases h : l.length ≤ 2000
  · rw [if_neg (by rw [tx_size]; omega), if_pos h]
    have := specParse_l0 h l k 0 [] (by simp) (by simp) hk
    simp only [List.nil_append] at this
    rw [show (0 : Int) = ((0 : Nat) : Int) from rfl, this]
    simp [pRes]
  · rw [if_pos (by rw [tx_size]; omega), if_neg h]; rfl
theorem implParse {l : List UInt8} {k : Nat} (hk : l.length < k) : impl_ParseMoves.f k (tx l) = some (parsed l) := by
  unfold impl_ParseMoves.f parsed
  by_cases h : l.length ≤ 2000
  · rw [if_neg (by rw [tx_size]; omega), if_pos h, tx_size]
    have := implParse_l0 h l k 0 [] (by simp) (by simp) hk
    simp only [List.nil_append] at this
    exact this
  · rw [if_pos (by rw [tx_size]; omega), if_neg h]
theorem parsed_length (l : List UInt8) : (parsed l).1.length ≤ 2000 := by
  unfold parsed pRes
  split
  · split
    · simpa [pNs] using ‹_›
    · simp
  · simp

end Go.Proofs.Ytclomifkpciefaa.Pure
