/- What the printed texts of moves are. -/
import Derived.Test.YtddkffdjondjnaaGreatDoorAx1
import Derived.Test.YtddkffdjondjnaaGreatDoorAx2
import Derived.Test.YtddkffdjondjnaaGreatDoorAx8
import Derived.Test.YtddkffdjondjnaaGreatDoorAx9
import Derived.Test.YtddkffdjondjnaaGreatDoorNext
set_option linter.unusedVariables false
set_option linter.unusedSimpArgs false
namespace Go.Proofs.YtddkffdjondjnaaGreatDoor.Pure
open Go.RowKit Go.Proofs.YtddkffdjondjnaaGreatDoor.A Go.Proofs.YtddkffdjondjnaaGreatDoorW.PrintWords Go.Proofs.YtddkffdjondjnaaGreatDoorW.PrintLast Go.Proofs.YtddkffdjondjnaaGreatDoorW.PrintMore

theorem l1All_l0 {l : List Int} {lo hi : Int} (hl : l.length ≤ 2000000) (r : List Int) : ∀ (k i : Nat), l.drop i = r → r.length < k →
    spec_l1All.l0 k lo hi l (l.length : Int) (i : Int) = some (r.all fun x => decide (lo ≤ x ∧ x ≤ hi)) := by
  induction r with
  | nil =>
    intro k i hd hk
    obtain ⟨k, rfl⟩ : ∃ m, k = m + 1 := ⟨k - 1, by omega⟩
    have : l.length ≤ i := List.drop_eq_nil_iff.1 hd
    simp only [spec_l1All.l0]
    rw [if_neg (by omega)]; rfl
  | cons x r ih =>
    intro k i hd hk
    obtain ⟨k, rfl⟩ : ∃ m, k = m + 1 := ⟨k - 1, by omega⟩
    obtain ⟨h2, h3, h4⟩ := getElem?_drop_cons hd
    simp only [spec_l1All.l0, spec_l1In.f]
    rw [if_pos (by omega), if_pos (by omega), if_pos (by omega), rd_nat h2, w64 (x := (i : Int) + 1) (by omega) (by omega), show ((i : Int) + 1) = ((i + 1 : Nat) : Int) by omega]
    rw [ih k (i + 1) h3 (by simp at hk; omega)]
    by_cases q0 : x ≥ lo
    · have q0' : lo ≤ x := q0
      by_cases q1 : x ≤ hi
      · simp [q0', q1]
      · simp [q0', q1]
    · have q0' : ¬ lo ≤ x := q0
      simp [q0']
theorem l1All {l : List Int} {lo hi : Int} {k : Nat} (hl : l.length ≤ 2000000) (hk : l.length < k) : spec_l1All.f k l lo hi = some (l.all fun x => decide (lo ≤ x ∧ x ≤ hi)) := by
  unfold spec_l1All.f
  exact l1All_l0 hl l k 0 (by simp) hk

def ltr (x : Int) : UInt8 := UInt8.ofNat (97 + x.toNat)
theorem enc_small : ∀ n : Nat, n < 20 → Utf8.encode (IntKind.i32.wrap (wrap64 (97 + (n : Int)))) = tx [ltr (n : Int)] := by decide +kernel
theorem num_small20 : ∀ n : Nat, n < 20 → UInt8.ofNat (((97 + (n : Int)) % 256).toNat) = ltr (n : Int) := by decide +kernel
theorem enc_of {x : Int} (h : 0 ≤ x ∧ x ≤ 19) : Utf8.encode (IntKind.i32.wrap (wrap64 (97 + x))) = tx [ltr x] := by
  obtain ⟨n, rfl⟩ := Int.eq_ofNat_of_zero_le h.1
  exact enc_small n (by omega)
theorem shown_l0 {l : List Int} (hl : l.length ≤ 2000) (r : List Int) : ∀ (k i : Nat) (acc : List UInt8), l.drop i = r → (∀ x ∈ r, 0 ≤ x ∧ x ≤ 19) → acc.length ≤ i → r.length < k →
    spec_riShown.l0 k l (tx acc) (i : Int) = some (tx (acc ++ r.map ltr)) := by
  induction r with
  | nil =>
    intro k i acc hd _ ha hk
    obtain ⟨k, rfl⟩ : ∃ m, k = m + 1 := ⟨k - 1, by omega⟩
    have : l.length ≤ i := List.drop_eq_nil_iff.1 hd
    rw [spec_riShown.l0, if_neg (by omega)]; simp
  | cons x r ih =>
    intro k i acc hd hr ha hk
    obtain ⟨k, rfl⟩ : ∃ m, k = m + 1 := ⟨k - 1, by omega⟩
    obtain ⟨h2, h3, h4⟩ := getElem?_drop_cons hd
    rw [spec_riShown.l0, if_pos (by omega), if_pos (by omega), rd_nat h2, enc_of (hr x (by simp)), if_pos (by rw [tx_size, tx_size]; simp; omega), w64 (by omega) (by omega), show ((i : Int) + 1) = ((i + 1 : Nat) : Int) by omega, tx_app]
    rw [ih k (i + 1) _ h3 (fun y hy => hr y (by simp [hy])) (by simp; omega) (by simp at hk; omega)]
    simp
theorem moves_l0 {l : List Int} (hl : l.length ≤ 2000) (r : List Int) : ∀ (k i : Nat) (acc : List Int), l.drop i = r → acc.length ≤ i → r.length < k →
    impl_MovesText.l0 k acc l (l.length : Int) (i : Int) = some (strOfNums (acc ++ r.map fun x => (97 + x) % 256), true) := by
  induction r with
  | nil =>
    intro k i acc hd ha hk
    obtain ⟨k, rfl⟩ : ∃ m, k = m + 1 := ⟨k - 1, by omega⟩
    have : l.length ≤ i := List.drop_eq_nil_iff.1 hd
    rw [impl_MovesText.l0, if_neg (by omega)]; simp
  | cons x r ih =>
    intro k i acc hd ha hk
    obtain ⟨k, rfl⟩ : ∃ m, k = m + 1 := ⟨k - 1, by omega⟩
    obtain ⟨h2, h3, h4⟩ := getElem?_drop_cons hd
    rw [impl_MovesText.l0, if_pos (by omega), if_pos (by omega), if_pos (by omega), if_pos (by omega), rd_nat h2, w64 (by omega) (by omega), show ((i : Int) + 1) = ((i + 1 : Nat) : Int) by omega]
    rw [ih k (i + 1) _ h3 (by simp; omega) (by simp at hk; omega)]
    simp
theorem strOfNums_ltr {l : List Int} (h : ∀ x ∈ l, 0 ≤ x ∧ x ≤ 19) : strOfNums (l.map fun x => (97 + x) % 256) = tx (l.map ltr) := by
  unfold strOfNums tx
  congr 2
  rw [List.map_map]
  apply List.map_congr_left
  intro x hx
  obtain ⟨n, rfl⟩ := Int.eq_ofNat_of_zero_le (h x hx).1
  have := (h _ hx).2
  exact num_small20 n (by omega)
theorem movesText (l : List Int) : ∃ (r : ByteArray) (b : Bool), ∀ k, l.length + 10 < k → l.length ≤ 2000000 → spec_MovesText.f k l = some (r, b) ∧ impl_MovesText.f k l = some (r, b) := by
  by_cases hl : (l.length : Int) > 2000
  · refine ⟨⟨#[]⟩, false, fun k hk _ => ?_⟩
    unfold spec_MovesText.f impl_MovesText.f
    rw [if_pos hl, if_pos hl]
    exact ⟨rfl, rfl⟩
  · have e : (l.any fun n => !(decide (0 ≤ n ∧ n ≤ 19))) = !(l.all fun x => decide (0 ≤ x ∧ x ≤ 19)) := by
      rw [List.any_eq_not_all_not]; simp
    cases hq : (l.all fun x => decide (0 ≤ x ∧ x ≤ 19)) with
    | false =>
      refine ⟨⟨#[]⟩, false, fun k hk _ => ?_⟩
      unfold spec_MovesText.f impl_MovesText.f
      rw [if_neg hl, if_neg hl, l1All (by omega) (by omega), e, hq]
      exact ⟨rfl, rfl⟩
    | true =>
      have hr : ∀ x ∈ l, 0 ≤ x ∧ x ≤ 19 := fun x hx => of_decide_eq_true (List.all_eq_true.1 hq x hx)
      refine ⟨tx (l.map ltr), true, fun k hk _ => ?_⟩
      unfold spec_MovesText.f impl_MovesText.f spec_riShown.f
      rw [if_neg hl, if_neg hl, l1All (by omega) (by omega), e, hq]
      have h1 := shown_l0 (l := l) (by omega) l k 0 [] (by simp) hr (by simp) (by omega)
      have h2 := moves_l0 (l := l) (by omega) l k 0 [] (by simp) (by simp) (by omega)
      rw [List.nil_append] at h1 h2
      rw [strOfNums_ltr hr] at h2
      simp only [Option.bind_some, if_true, Bool.not_true, Bool.false_eq_true, if_false]
      have h1' : spec_riShown.l0 k l (⟨#[]⟩ : ByteArray) 0 = some (tx (l.map ltr)) := h1
      rw [h1']
      exact ⟨rfl, h2⟩

/-! texts of moves -/
def pOk (l : List UInt8) : Bool := l.all fun b => decide (97 ≤ b.toNat ∧ b.toNat ≤ 116)
def pNs (l : List UInt8) : List Int := l.map fun b => (b.toNat : Int) - 97
def pRes (l : List UInt8) : List Int × Bool := if pOk l then (pNs l, true) else ([], false)
theorem letter (b : UInt8) : wrap64 (wrap64 (b.toNat : Int) - 97) = (b.toNat : Int) - 97 := by
  have := b.toNat_lt
  rw [w64 (x := (b.toNat : Int)) (by omega) (by omega), w64 (by omega) (by omega)]
theorem specParse_l0 {l : List UInt8} (hl : l.length ≤ 2000) (r : List UInt8) : ∀ (k i : Nat) (acc : List Int), l.drop i = r → acc.length ≤ i → r.length < k →
    spec_riParse.l0 k (tx l) acc (i : Int) = some (if pOk r then (acc ++ pNs r, true) else ([], false)) := by
  induction r with
  | nil =>
    intro k i acc hd ha hk
    obtain ⟨k, rfl⟩ : ∃ m, k = m + 1 := ⟨k - 1, by omega⟩
    have : l.length ≤ i := List.drop_eq_nil_iff.1 hd
    rw [spec_riParse.l0, tx_size, if_neg (by omega)]
    simp [pOk, pNs]
  | cons b r ih =>
    intro k i acc hd ha hk
    obtain ⟨k, rfl⟩ : ∃ m, k = m + 1 := ⟨k - 1, by omega⟩
    obtain ⟨h2, h3, h4⟩ := getElem?_drop_cons hd
    rw [spec_riParse.l0, tx_size, if_pos (by omega), if_pos (by omega), bt_drop hd, letter, w64 (x := (i : Int) + 1) (by omega) (by omega), show ((i : Int) + 1) = ((i + 1 : Nat) : Int) by omega]
    rw [ih k (i + 1) _ h3 (by simp; omega) (by simp at hk; omega)]
    unfold spec_l1In.f
    by_cases q1 : 97 ≤ b.toNat
    · by_cases q2 : b.toNat ≤ 116
      · rw [if_pos (by omega), decide_eq_true (show ((b.toNat : Int) - 97 ≤ 19) by omega)]
        simp only [Option.bind_some, if_true]
        rw [if_pos (by omega)]
        have : pOk (b :: r) = pOk r := by simp [pOk, q1, q2]
        rw [this]
        cases pOk r <;> simp [pNs]
      · rw [if_pos (by omega), decide_eq_false (show ¬ ((b.toNat : Int) - 97 ≤ 19) by omega)]
        simp [pOk, q2]
    · rw [if_neg (by omega)]
      simp [pOk, q1]
theorem implParse_l0 {l : List UInt8} (hl : l.length ≤ 2000) (r : List UInt8) : ∀ (k i : Nat) (acc : List Int), l.drop i = r → acc.length ≤ i → r.length < k →
    impl_ParseMoves.l0 k (tx l) acc (l.length : Int) (i : Int) = some (if pOk r then (acc ++ pNs r, true) else ([], false)) := by
  induction r with
  | nil =>
    intro k i acc hd ha hk
    obtain ⟨k, rfl⟩ : ∃ m, k = m + 1 := ⟨k - 1, by omega⟩
    have : l.length ≤ i := List.drop_eq_nil_iff.1 hd
    rw [impl_ParseMoves.l0, if_neg (by omega)]
    simp [pOk, pNs]
  | cons b r ih =>
    intro k i acc hd ha hk
    obtain ⟨k, rfl⟩ : ∃ m, k = m + 1 := ⟨k - 1, by omega⟩
    obtain ⟨h2, h3, h4⟩ := getElem?_drop_cons hd
    rw [impl_ParseMoves.l0, tx_size, if_pos (by omega), if_pos (by omega), if_pos (by omega), bt_drop hd, letter, w64 (x := (i : Int) + 1) (by omega) (by omega), show ((i : Int) + 1) = ((i + 1 : Nat) : Int) by omega]
    rw [ih k (i + 1) _ h3 (by simp; omega) (by simp at hk; omega)]
    unfold impl_in.f
    by_cases q1 : 97 ≤ b.toNat
    · by_cases q2 : b.toNat ≤ 116
      · rw [if_pos (by omega), decide_eq_true (show ((b.toNat : Int) - 97 ≤ 19) by omega)]
        simp only [Option.bind_some, if_true]
        rw [if_pos (by omega)]
        have : pOk (b :: r) = pOk r := by simp [pOk, q1, q2]
        rw [this]
        cases pOk r <;> simp [pNs]
      · rw [if_pos (by omega), decide_eq_false (show ¬ ((b.toNat : Int) - 97 ≤ 19) by omega)]
        simp [pOk, q2]
    · rw [if_neg (by omega)]
      simp [pOk, q1]
/-- ParseMoves of a text -/
def parsed (l : List UInt8) : List Int × Bool := if l.length ≤ 2000 then pRes l else ([], false)
theorem specParse {l : List UInt8} {k : Nat} (hk : l.length < k) : spec_ParseMoves.f k (tx l) = some (parsed l) := by
  unfold spec_ParseMoves.f spec_riParse.f parsed
  by_cases h : l.length ≤ 2000
  · rw [if_neg (by rw [tx_size]; omega), if_pos h]
    have := specParse_l0 h l k 0 [] (by simp) (by simp) hk
    simp only [List.nil_append] at this
    rw [show (0 : Int) = ((0 : Nat) : Int) from rfl, this]
    simp [pRes]
  · rw [if_pos (by rw [tx_size]; omega), if_neg h]; rfl
theorem implParse {l : List UInt8} {k : Nat} (hk : l.length < k) : impl_ParseMoves.f k (tx l) = some (parsed l) := by
  unfold impl_ParseMoves.f parsed
  by_cases h : l.length ≤ 2000
  · rw [if_neg (by rw [tx_size]; omega), if_pos h, tx_size]
    have := implParse_l0 h l k 0 [] (by simp) (by simp) hk
    simp only [List.nil_append] at this
    exact this
  · rw [if_pos (by rw [tx_size]; omega), if_neg h]
theorem parsed_length (l : List UInt8) : (parsed l).1.length ≤ 2000 := by
  unfold parsed pRes
  split
  · split
    · simpa [pNs] using ‹_›
    · simp
  · simp

end Go.Proofs.YtddkffdjondjnaaGreatDoor.Pure
