/- What the law's helpers on lists of texts give. -/
import Derived.Test.YtgmmplcijhibgaaDoorAx6
import Derived.Test.YtgmmplcijhibgaaDoorAx7
import Derived.Test.YtgmmplcijhibgaaDoorRing
set_option linter.unusedVariables false
set_option linter.unusedSimpArgs false
namespace Go.Proofs.YtgmmplcijhibgaaDoor.Pure
open Go.RowKit Go.Proofs.YtgmmplcijhibgaaDoor.A Go.Proofs.YtgmmplcijhibgaaDoorW.PrintWords Go.Proofs.YtgmmplcijhibgaaDoorW.PrintLast Go.Proofs.YtgmmplcijhibgaaDoorW.PrintMore

/-! lists of texts -/
theorem rdOf_nat {l : List ByteArray} {i : Nat} {x : ByteArray} (h : l[i]? = some x) : rdOf ByteArray.empty l (i : Int) = x := by
  unfold rdOf; rw [Int.toNat_natCast, List.getD, h]; rfl
theorem toList_inj {a b : ByteArray} (h : a.toList = b.toList) : a = b := by
  rw [ByteArray.toList_eq, ByteArray.toList_eq] at h
  exact ByteArray.ext (Array.toList_inj.1 h)
theorem eqStringS_l0 {a b : List ByteArray} (hl : a.length = b.length) (hb : a.length ≤ 281474976710656) (d : Nat) : ∀ (k i : Nat), i + d = a.length → d < k → a.take i = b.take i →
    laws_eqStringS.l0 k a b (i : Int) = some (decide (a = b)) := by
  induction d with
  | zero =>
    intro k i hi hk ht
    obtain ⟨k, rfl⟩ : ∃ m, k = m + 1 := ⟨k - 1, by omega⟩
    simp only [laws_eqStringS.l0]
    rw [if_neg (by omega)]
    rw [List.take_of_length_le (by omega), List.take_of_length_le (by omega)] at ht
    simp [ht]
  | succ d ih =>
    intro k i hi hk ht
    obtain ⟨k, rfl⟩ : ∃ m, k = m + 1 := ⟨k - 1, by omega⟩
    have ha : a[i]? = some a[i] := List.getElem?_eq_getElem (by omega)
    have hb' : b[i]? = some b[i] := List.getElem?_eq_getElem (by omega)
    simp only [laws_eqStringS.l0]
    rw [if_pos (by omega), if_pos (by omega), if_pos (by omega), rdOf_nat ha, rdOf_nat hb', w64 (by omega) (by omega)]
    by_cases e : a[i].toList = b[i].toList
    · rw [if_pos e, show ((i : Int) + 1) = ((i + 1 : Nat) : Int) by omega]
      exact ih k (i + 1) (by omega) (by omega) (by rw [List.take_add_one, List.take_add_one, ht, ha, hb', toList_inj e])
    · rw [if_neg e]
      have : a ≠ b := by rintro rfl; exact e rfl
      simp [this]
theorem eqStringS {a b : List ByteArray} {k : Nat} (ha : a.length ≤ 281474976710656) (hk : a.length < k) : laws_eqStringS.f k a b = some (decide (a = b)) := by
  unfold laws_eqStringS.f
  by_cases e : a.length = b.length
  · rw [if_pos (by omega)]
    exact eqStringS_l0 e ha a.length k 0 (by omega) hk (by simp)
  · rw [if_neg (by omega)]
    have : a ≠ b := by rintro rfl; exact e rfl
    simp [this]
theorem markText_l0 (d : Nat) : ∀ (n : Nat) (s : ByteArray), n < 10 ^ d → n < 4000000000000000000 → s.size + d ≤ 1000 → ∃ r, ∀ k, d < k → laws_markText.l0 k (n : Int) s = some r := by
  induction d with
  | zero =>
    intro n s hn h0 hs
    have : n = 0 := by simpa using hn
    subst this
    refine ⟨(⟨#[109]⟩ : ByteArray) ++ s, fun k hk => ?_⟩
    obtain ⟨k, rfl⟩ : ∃ m, k = m + 1 := ⟨k - 1, by omega⟩
    rw [laws_markText.l0, if_neg (by omega), if_pos (by omega)]
  | succ d ih =>
    intro n s hn h0 hs
    by_cases q : n = 0
    · subst q
      refine ⟨(⟨#[109]⟩ : ByteArray) ++ s, fun k hk => ?_⟩
      obtain ⟨k, rfl⟩ : ∃ m, k = m + 1 := ⟨k - 1, by omega⟩
      rw [laws_markText.l0, if_neg (by omega), if_pos (by omega)]
    · have z : (strOfNums [(wrap64 (48 + (Int.tmod (n : Int) 10))) % 256]).size = 1 := rfl
      obtain ⟨r, hr⟩ := ih (n / 10) (strOfNums [(wrap64 (48 + (Int.tmod (n : Int) 10))) % 256] ++ s) (by rw [Nat.pow_succ] at hn; omega) (by omega) (by rw [ByteArray.size_append]; omega)
      refine ⟨r, fun k hk => ?_⟩
      obtain ⟨k, rfl⟩ : ∃ m, k = m + 1 := ⟨k - 1, by omega⟩
      rw [laws_markText.l0, if_pos (by omega)]
      simp only [Option.bind_some]
      rw [if_pos (by omega), Int.tdiv_eq_ediv_of_nonneg (by omega), w64 (x := (n : Int) / 10) (by omega) (by omega), show ((n : Int) / 10) = ((n / 10 : Nat) : Int) by omega]
      exact hr k (by omega)
theorem markText_ex (n : Int) : ∃ r, 0 < n → n < 4000000000000000000 → ∀ k, 20 < k → laws_markText.f k n = some r := by
  by_cases h : 0 < n ∧ n < 4000000000000000000
  · obtain ⟨m, rfl⟩ := Int.eq_ofNat_of_zero_le (show 0 ≤ n by omega)
    obtain ⟨r, hr⟩ := markText_l0 20 m (⟨#[]⟩ : ByteArray) (by simp; omega) (by omega) (by decide)
    refine ⟨r, fun h0 h1 k hk => ?_⟩
    unfold laws_markText.f
    rw [if_neg (by omega)]
    exact hr k hk
  · exact ⟨⟨#[]⟩, fun h0 h1 => absurd ⟨h0, h1⟩ h⟩
noncomputable def mt (n : Int) : ByteArray := (markText_ex n).choose
theorem markText {n : Int} {k : Nat} (h0 : 0 < n) (h1 : n < 4000000000000000000) (hk : 20 < k) : laws_markText.f k n = some (mt n) := (markText_ex n).choose_spec h0 h1 k hk
noncomputable def mkS : Int → Nat → List ByteArray
  | _, 0 => []
  | m, d + 1 => mt m :: mkS (m + 1) d
theorem mkS_length (m : Int) (d : Nat) : (mkS m d).length = d := by
  induction d generalizing m with
  | zero => rfl
  | succ d ih => simp [mkS, ih]
theorem markStringS_l0 (d : Nat) : ∀ (k i : Nat) (x : List ByteArray) (m : Int), i + d = x.length → x.length ≤ 281474976710656 → 0 < m → m + d ≤ 2000000000000000000 → d + 21 < k →
    laws_markStringS.l0 k x m (i : Int) = some (m + d, x.take i ++ mkS m d) := by
  induction d with
  | zero =>
    intro k i x m hi hx h0 h1 hk
    obtain ⟨k, rfl⟩ : ∃ m, k = m + 1 := ⟨k - 1, by omega⟩
    simp only [laws_markStringS.l0]
    rw [if_neg (by omega), List.take_of_length_le (by omega)]
    simp [mkS]
  | succ d ih =>
    intro k i x m hi hx h0 h1 hk
    obtain ⟨k, rfl⟩ : ∃ m, k = m + 1 := ⟨k - 1, by omega⟩
    simp only [laws_markStringS.l0]
    rw [if_pos (by omega), markText h0 (by omega) (by omega), Option.bind_some, if_pos (by omega), w64 (by omega) (by omega), w64 (by omega) (by omega), Int.toNat_natCast, show ((i : Int) + 1) = ((i + 1 : Nat) : Int) by omega]
    rw [ih k (i + 1) (x.set i (mt m)) (m + 1) (by simp; omega) (by simpa using hx) (by omega) (by omega) (by omega)]
    congr 2
    · omega
    · rw [mkS, List.take_add_one, List.take_set_of_le (Nat.le_refl i), List.getElem?_set_self (by omega)]; simp
theorem markStringS {l : List ByteArray} {k : Nat} (hl : l.length ≤ 281474976710656) (hk : l.length + 21 < k) : laws_markStringS.f k l 1 = some (1 + (l.length : Int), mkS 1 l.length) := by
  unfold laws_markStringS.f
  have := markStringS_l0 l.length k 0 l 1 (by omega) hl (by omega) (by omega) hk
  simpa using this
theorem heldStringS_l0 (d : Nat) : ∀ (k i : Nat) (x : List ByteArray) (m : Int), i + d = x.length → x.drop i = mkS m d → x.length ≤ 281474976710656 → 0 < m → m + d ≤ 2000000000000000000 → d + 21 < k →
    laws_heldStringS.l0 k x m (i : Int) = some (m + d) := by
  induction d with
  | zero =>
    intro k i x m hi hd hx h0 h1 hk
    obtain ⟨k, rfl⟩ : ∃ m, k = m + 1 := ⟨k - 1, by omega⟩
    simp only [laws_heldStringS.l0]
    rw [if_neg (by omega)]; simp
  | succ d ih =>
    intro k i x m hi hd hx h0 h1 hk
    obtain ⟨k, rfl⟩ : ∃ m, k = m + 1 := ⟨k - 1, by omega⟩
    obtain ⟨h2, h3, h4⟩ := getElem?_drop_cons hd
    simp only [laws_heldStringS.l0]
    rw [if_pos (by omega), if_pos (by omega), markText h0 (by omega) (by omega), Option.bind_some, rdOf_nat h2, if_pos rfl, w64 (by omega) (by omega), w64 (by omega) (by omega), show ((i : Int) + 1) = ((i + 1 : Nat) : Int) by omega]
    rw [ih k (i + 1) x (m + 1) (by omega) h3 hx (by omega) (by omega) (by omega)]
    congr 1; omega
theorem heldStringS {n k : Nat} (hl : n ≤ 281474976710656) (hk : n + 21 < k) : laws_heldStringS.f k (mkS 1 n) 1 = some (1 + (n : Int)) := by
  unfold laws_heldStringS.f
  exact heldStringS_l0 n k 0 (mkS 1 n) 1 (by simp [mkS_length]) rfl (by simpa [mkS_length] using hl) (by omega) (by omega) hk

end Go.Proofs.YtgmmplcijhibgaaDoor.Pure
