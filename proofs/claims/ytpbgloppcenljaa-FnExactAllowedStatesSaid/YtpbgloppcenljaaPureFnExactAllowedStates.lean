/- The law FnExactAllowedStates, told over plain functions, holds for all arguments whose rows are no longer than a row can be. -/
import Derived.Test.YtpbgloppcenljaaAx0
import Derived.Test.YtpbgloppcenljaaAx10
import Derived.Test.YtpbgloppcenljaaAx11
import Derived.Test.YtpbgloppcenljaaAx9
import Derived.Test.YtpbgloppcenljaaStates
set_option linter.unusedVariables false
set_option linter.unusedSimpArgs false
namespace Go.Proofs.Ytpbgloppcenljaa.Pure
open Go.RowKit Go.Proofs.Ytpbgloppcenljaa.A Go.Proofs.YtpbgloppcenljaaW.PrintWords Go.Proofs.YtpbgloppcenljaaW.PrintLast Go.Proofs.YtpbgloppcenljaaW.PrintMore

/-! marks upon numbers -/
theorem markIntS_l0 (d : Nat) : ∀ (k i : Nat) (x : List Int) (m : Int), i + d = x.length → x.length ≤ 281474976710656 → 0 ≤ m → m + d ≤ 4000000000000000000 → d < k →
    laws_markIntS.l0 k x m (i : Int) = some (m + d, x.take i ++ mk m d) := by
  induction d with
  | zero =>
    intro k i x m hi hx h0 h1 hk
    obtain ⟨k, rfl⟩ : ∃ m, k = m + 1 := ⟨k - 1, by omega⟩
    simp only [laws_markIntS.l0]
    rw [if_neg (by omega), List.take_of_length_le (by omega)]
    simp [mk]
  | succ d ih =>
    intro k i x m hi hx h0 h1 hk
    obtain ⟨k, rfl⟩ : ∃ m, k = m + 1 := ⟨k - 1, by omega⟩
    simp only [laws_markIntS.l0]
    rw [if_pos (by omega), if_pos (by omega), w64 (by omega) (by omega), w64 (by omega) (by omega), Int.toNat_natCast, show ((i : Int) + 1) = ((i + 1 : Nat) : Int) by omega]
    rw [ih k (i + 1) (x.set i m) (m + 1) (by simp; omega) (by simpa using hx) (by omega) (by omega) (by omega)]
    congr 2
    · omega
    · rw [mk, List.take_add_one, List.take_set_of_le (Nat.le_refl i), List.getElem?_set_self (by omega)]; simp
theorem markIntS {l : List Int} {k : Nat} (hl : l.length ≤ 281474976710656) (hk : l.length < k) : laws_markIntS.f k l 1 = some (1 + (l.length : Int), mk 1 l.length) := by
  unfold laws_markIntS.f
  have := markIntS_l0 l.length k 0 l 1 (by omega) hl (by omega) (by omega) hk
  simpa using this

/-! marks upon bolts -/
def mkB : Int → Nat → List (S56)
  | _, 0 => []
  | m, d + 1 => ⟨m, m + 1, m + 2, m + 3⟩ :: mkB (m + 4) d
theorem mkB_length (m : Int) (d : Nat) : (mkB m d).length = d := by
  induction d generalizing m with
  | zero => rfl
  | succ d ih => simp [mkB, ih]
theorem rdT_set {x : List (S56)} {i : Nat} (h : i < x.length) (a : S56) : rd_T56 (x.set i a) (i : Int) = a := rdT (List.getElem?_set_self h)
theorem markB_l0 (d : Nat) : ∀ (k i : Nat) (x : List (S56)) (m : Int), i + d = x.length → x.length ≤ 2000000 → 0 ≤ m → m ≤ 1000000000 + 4 * (i : Int) → d < k →
    laws_markBlockS.l0 k x m (i : Int) = some (m + 4 * (d : Int), x.take i ++ mkB m d) := by
  induction d with
  | zero =>
    intro k i x m hi hx h0 h1 hk
    obtain ⟨k, rfl⟩ : ∃ m, k = m + 1 := ⟨k - 1, by omega⟩
    rw [laws_markBlockS.l0, if_neg (by omega), List.take_of_length_le (by omega)]
    simp [mkB]
  | succ d ih =>
    intro k i x m hi hx h0 h1 hk
    obtain ⟨k, rfl⟩ : ∃ m, k = m + 1 := ⟨k - 1, by omega⟩
    have hl : i < x.length := by omega
    have w1 : wrap64 (m + 1) = m + 1 := w64 (by omega) (by omega)
    have W1 := Aside0.mk w1; clear w1
    have w2 : wrap64 (m + 1 + 1) = m + 2 := by rw [w64 (by omega) (by omega)]; omega
    have W2 := Aside0.mk w2; clear w2
    have w3 : wrap64 (m + 2 + 1) = m + 3 := by rw [w64 (by omega) (by omega)]; omega
    have W3 := Aside0.mk w3; clear w3
    have w4 : wrap64 (m + 3 + 1) = m + 4 := by rw [w64 (by omega) (by omega)]; omega
    have W4 := Aside0.mk w4; clear w4
    have w5 : wrap64 ((i : Int) + 1) = ((i + 1 : Nat) : Int) := by rw [w64 (by omega) (by omega)]; omega
    have W5 := Aside0.mk w5; clear w5
    rw [laws_markBlockS.l0, if_pos (by omega), if_pos (by omega)]
    simp only [Option.bind_some, Int.toNat_natCast]
    rw [W1.out, W2.out, W3.out, W4.out, W5.out]
    rw [rdT_set (by omega)]
    simp only [List.set_set]
    rw [rdT_set (by omega)]
    simp only [List.set_set]
    rw [rdT_set (by omega)]
    simp only [List.set_set]
    rw [ih k (i + 1) _ (m + 4) (by rw [List.length_set]; omega) (by rw [List.length_set]; exact hx) (by omega) (by omega) (by omega)]
    congr 2
    · omega
    · rw [mkB, List.take_add_one, List.take_set_of_le (Nat.le_refl i), List.getElem?_set_self hl]
      simp
theorem markBolts {l0 : List Int} {l1 : List (S56)} {k : Nat} (h0 : l0.length ≤ 1048576) (h1 : l1.length ≤ 1048576) (hk : l0.length + l1.length < k) :
    laws_markBolts.f k l0 l1 1 = some (1 + (l0.length : Int) + 4 * (l1.length : Int), mk 1 l0.length, mkB (1 + (l0.length : Int)) l1.length) := by
  unfold laws_markBolts.f
  have hb := markB_l0 l1.length k 0 l1 (1 + (l0.length : Int)) (by omega) (by omega) (by omega) (by omega) (by omega)
  rw [markIntS (by omega) (by omega), Option.bind_some]
  unfold laws_markBlockS.f
  simp only
  rw [show (0 : Int) = ((0 : Nat) : Int) from rfl, hb, Option.bind_some]
  simp

/-! lists of texts -/
theorem toList_inj {a b : ByteArray} (h : a.toList = b.toList) : a = b := by
  rw [ByteArray.toList_eq, ByteArray.toList_eq] at h
  exact ByteArray.ext (Array.toList_inj.1 h)
theorem eqStringS_l0 {a b : List ByteArray} (hl : a.length = b.length) (hb : a.length ≤ 281474976710656) (d : Nat) : ∀ (k i : Nat), i + d = a.length → d < k → a.take i = b.take i →
    laws_eqStringS.l0 k a b (i : Int) = some (decide (a = b)) := by
  induction d with
  | zero =>
    intro k i hi hk ht
    obtain ⟨k, rfl⟩ : ∃ m, k = m + 1 := ⟨k - 1, by omega⟩
    simp only [laws_eqStringS.l0]
    rw [if_neg (by omega)]
    rw [List.take_of_length_le (by omega), List.take_of_length_le (by omega)] at ht
    simp [ht]
  | succ d ih =>
    intro k i hi hk ht
    obtain ⟨k, rfl⟩ : ∃ m, k = m + 1 := ⟨k - 1, by omega⟩
    have ha : a[i]? = some a[i] := List.getElem?_eq_getElem (by omega)
    have hb' : b[i]? = some b[i] := List.getElem?_eq_getElem (by omega)
    simp only [laws_eqStringS.l0]
    rw [if_pos (by omega), if_pos (by omega), if_pos (by omega), rdOf_nat ha, rdOf_nat hb', w64 (by omega) (by omega)]
    by_cases e : a[i].toList = b[i].toList
    · rw [if_pos e, show ((i : Int) + 1) = ((i + 1 : Nat) : Int) by omega]
      exact ih k (i + 1) (by omega) (by omega) (by rw [List.take_add_one, List.take_add_one, ht, ha, hb', toList_inj e])
    · rw [if_neg e]
      have : a ≠ b := by rintro rfl; exact e rfl
      simp [this]
theorem eqStringS {a b : List ByteArray} {k : Nat} (ha : a.length ≤ 281474976710656) (hk : a.length < k) : laws_eqStringS.f k a b = some (decide (a = b)) := by
  unfold laws_eqStringS.f
  by_cases e : a.length = b.length
  · rw [if_pos (by omega)]
    exact eqStringS_l0 e ha a.length k 0 (by omega) hk (by simp)
  · rw [if_neg (by omega)]
    have : a ≠ b := by rintro rfl; exact e rfl
    simp [this]
theorem markText_l0 (d : Nat) : ∀ (n : Nat) (s : ByteArray), n < 10 ^ d → n < 4000000000000000000 → s.size + d ≤ 1000 → ∃ r, ∀ k, d < k → laws_markText.l0 k (n : Int) s = some r := by
  induction d with
  | zero =>
    intro n s hn h0 hs
    have : n = 0 := by simpa using hn
    subst this
    refine ⟨(⟨#[109]⟩ : ByteArray) ++ s, fun k hk => ?_⟩
    obtain ⟨k, rfl⟩ : ∃ m, k = m + 1 := ⟨k - 1, by omega⟩
    rw [laws_markText.l0, if_neg (by omega), if_pos (by omega)]
  | succ d ih =>
    intro n s hn h0 hs
    by_cases q : n = 0
    · subst q
      refine ⟨(⟨#[109]⟩ : ByteArray) ++ s, fun k hk => ?_⟩
      obtain ⟨k, rfl⟩ : ∃ m, k = m + 1 := ⟨k - 1, by omega⟩
      rw [laws_markText.l0, if_neg (by omega), if_pos (by omega)]
    · have z : (strOfNums [(wrap64 (48 + (Int.tmod (n : Int) 10))) % 256]).size = 1 := rfl
      obtain ⟨r, hr⟩ := ih (n / 10) (strOfNums [(wrap64 (48 + (Int.tmod (n : Int) 10))) % 256] ++ s) (by rw [Nat.pow_succ] at hn; omega) (by omega) (by rw [ByteArray.size_append]; omega)
      refine ⟨r, fun k hk => ?_⟩
      obtain ⟨k, rfl⟩ : ∃ m, k = m + 1 := ⟨k - 1, by omega⟩
      rw [laws_markText.l0, if_pos (by omega)]
      simp only [Option.bind_some]
      rw [if_pos (by omega), Int.tdiv_eq_ediv_of_nonneg (by omega), w64 (x := (n : Int) / 10) (by omega) (by omega), show ((n : Int) / 10) = ((n / 10 : Nat) : Int) by omega]
      exact hr k (by omega)
theorem markText_ex (n : Int) : ∃ r, 0 < n → n < 4000000000000000000 → ∀ k, 20 < k → laws_markText.f k n = some r := by
  by_cases h : 0 < n ∧ n < 4000000000000000000
  · obtain ⟨m, rfl⟩ := Int.eq_ofNat_of_zero_le (show 0 ≤ n by omega)
    obtain ⟨r, hr⟩ := markText_l0 20 m (⟨#[]⟩ : ByteArray) (by simp; omega) (by omega) (by decide)
    refine ⟨r, fun h0 h1 k hk => ?_⟩
    unfold laws_markText.f
    rw [if_neg (by omega)]
    exact hr k hk
  · exact ⟨⟨#[]⟩, fun h0 h1 => absurd ⟨h0, h1⟩ h⟩
noncomputable def mt (n : Int) : ByteArray := (markText_ex n).choose
theorem markText {n : Int} {k : Nat} (h0 : 0 < n) (h1 : n < 4000000000000000000) (hk : 20 < k) : laws_markText.f k n = some (mt n) := (markText_ex n).choose_spec h0 h1 k hk
noncomputable def mkS : Int → Nat → List ByteArray
  | _, 0 => []
  | m, d + 1 => mt m :: mkS (m + 1) d
theorem mkS_length (m : Int) (d : Nat) : (mkS m d).length = d := by
  induction d generalizing m with
  | zero => rfl
  | succ d ih => simp [mkS, ih]
theorem markStringS_l0 (d : Nat) : ∀ (k i : Nat) (x : List ByteArray) (m : Int), i + d = x.length → x.length ≤ 281474976710656 → 0 < m → m + d ≤ 2000000000000000000 → d + 21 < k →
    laws_markStringS.l0 k x m (i : Int) = some (m + d, x.take i ++ mkS m d) := by
  induction d with
  | zero =>
    intro k i x m hi hx h0 h1 hk
    obtain ⟨k, rfl⟩ : ∃ m, k = m + 1 := ⟨k - 1, by omega⟩
    simp only [laws_markStringS.l0]
    rw [if_neg (by omega), List.take_of_length_le (by omega)]
    simp [mkS]
  | succ d ih =>
    intro k i x m hi hx h0 h1 hk
    obtain ⟨k, rfl⟩ : ∃ m, k = m + 1 := ⟨k - 1, by omega⟩
    simp only [laws_markStringS.l0]
    rw [if_pos (by omega), markText h0 (by omega) (by omega), Option.bind_some, if_pos (by omega), w64 (by omega) (by omega), w64 (by omega) (by omega), Int.toNat_natCast, show ((i : Int) + 1) = ((i + 1 : Nat) : Int) by omega]
    rw [ih k (i + 1) (x.set i (mt m)) (m + 1) (by simp; omega) (by simpa using hx) (by omega) (by omega) (by omega)]
    congr 2
    · omega
    · rw [mkS, List.take_add_one, List.take_set_of_le (Nat.le_refl i), List.getElem?_set_self (by omega)]; simp
theorem markStringS {l : List ByteArray} {k : Nat} (hl : l.length ≤ 281474976710656) (hk : l.length + 21 < k) : laws_markStringS.f k l 1 = some (1 + (l.length : Int), mkS 1 l.length) := by
  unfold laws_markStringS.f
  have := markStringS_l0 l.length k 0 l 1 (by omega) hl (by omega) (by omega) hk
  simpa using this
theorem heldStringS_l0 (d : Nat) : ∀ (k i : Nat) (x : List ByteArray) (m : Int), i + d = x.length → x.drop i = mkS m d → x.length ≤ 281474976710656 → 0 < m → m + d ≤ 2000000000000000000 → d + 21 < k →
    laws_heldStringS.l0 k x m (i : Int) = some (m + d) := by
  induction d with
  | zero =>
    intro k i x m hi hd hx h0 h1 hk
    obtain ⟨k, rfl⟩ : ∃ m, k = m + 1 := ⟨k - 1, by omega⟩
    simp only [laws_heldStringS.l0]
    rw [if_neg (by omega)]; simp
  | succ d ih =>
    intro k i x m hi hd hx h0 h1 hk
    obtain ⟨k, rfl⟩ : ∃ m, k = m + 1 := ⟨k - 1, by omega⟩
    obtain ⟨h2, h3, h4⟩ := getElem?_drop_cons hd
    simp only [laws_heldStringS.l0]
    rw [if_pos (by omega), if_pos (by omega), markText h0 (by omega) (by omega), Option.bind_some, rdOf_nat h2, if_pos rfl, w64 (by omega) (by omega), w64 (by omega) (by omega), show ((i : Int) + 1) = ((i + 1 : Nat) : Int) by omega]
    rw [ih k (i + 1) x (m + 1) (by omega) h3 hx (by omega) (by omega) (by omega)]
    congr 1; omega
theorem heldStringS {n k : Nat} (hl : n ≤ 281474976710656) (hk : n + 21 < k) : laws_heldStringS.f k (mkS 1 n) 1 = some (1 + (n : Int)) := by
  unfold laws_heldStringS.f
  exact heldStringS_l0 n k 0 (mkS 1 n) 1 (by simp [mkS_length]) rfl (by simpa [mkS_length] using hl) (by omega) (by omega) hk

theorem allowedBoth (l0 : List Int) (l1 : List S56) (h0 : l0.length ≤ 1048576) (h1 : l1.length ≤ 1048576) : ∃ (R : List ByteArray) (b : Bool), R.length ≤ 1000000 ∧ ∀ k, l0.length + l1.length + 1300020 < k → spec_AllowedStates.f k l0 l1 = some (R, b) ∧ impl_AllowedStates.f k l0 l1 = some (R, b) := by
  cases hg : gd l0 l1 with
  | false =>
    refine ⟨[], false, Nat.zero_le _, fun k hk => ?_⟩
    unfold spec_AllowedStates.f impl_AllowedStates.f
    rw [boGood (by omega) (by omega) (by omega), areBolts (by omega) (by omega), hg]
    exact ⟨rfl, rfl⟩
  | true =>
    obtain ⟨R, hR, H⟩ := statesBoth hg
    refine ⟨R, true, hR, fun k hk => ?_⟩
    unfold spec_AllowedStates.f impl_AllowedStates.f
    rw [boGood (by omega) (by omega) (by omega), areBolts (by omega) (by omega), hg, (H k (by omega)).1, (H k (by omega)).2]
    exact ⟨rfl, rfl⟩
theorem j2_true {R : List ByteArray} {k : Nat} (hR : R.length ≤ 1000000) (hk : R.length + 100 < k) : laws_FnExactAllowedStates.j2 k (mkS 1 R.length) (1 + (R.length : Int)) false = some true := by
  obtain ⟨k, rfl⟩ : ∃ m, k = m + 1 := ⟨k - 1, by omega⟩
  rw [laws_FnExactAllowedStates.j2, if_neg (by decide), heldStringS (by omega) (by omega), Option.bind_some, if_neg (by omega), if_pos rfl]
theorem FnExactAllowedStates (l0 : List Int) (l1 : List S61) (h0 : l0.length ≤ maxLen) (h1 : l1.length ≤ maxLen) : ∃ k, laws_FnExactAllowedStates.f k l0 l1 = some true := by
  obtain ⟨t, ht, hc⟩ := szBolts l0 l1 h0 h1
  obtain ⟨K, hK⟩ : ∃ K, K = l0.length + l1.length + 3300100 := ⟨_, rfl⟩
  refine ⟨K + 3, ?_⟩
  unfold laws_FnExactAllowedStates.f
  rw [ht]
  simp only [Option.bind_some]
  rcases hc with hc | ⟨hc, hl⟩
  · rw [if_pos hc]
  · obtain ⟨R, b, hR, H⟩ := allowedBoth l0 (l1.map cv) (by omega) (by rw [List.length_map]; omega)
    rw [List.length_map] at H
    have hj1 : laws_FnExactAllowedStates.j1 (K + 2) R b R (b != b) l0 l1 = some true := by
      rw [laws_FnExactAllowedStates.j1, bne_self_eq_false, if_neg (by decide), markStringS (by omega) (by omega), Option.bind_some]
      simp only
      rw [heldStringS (by omega) (by omega), Option.bind_some, if_neg (by omega), if_pos rfl, toBolts (by omega) (by omega) (by omega), Option.bind_some]
      simp only
      rw [(H _ (by omega)).2, Option.bind_some]
      simp only
      rw [eqStringS (by omega) (by omega), Option.bind_some, decide_eq_true rfl, if_pos rfl, bne_self_eq_false]
      exact j2_true hR (by omega)
    have hj0 : laws_FnExactAllowedStates.j0 (K + 3) R b R b (b != b) l0 l1 l0 (l1.map cv) = some true := by
      rw [laws_FnExactAllowedStates.j0, bne_self_eq_false, if_neg (by decide), toBolts (by omega) (by omega) (by omega), Option.bind_some]
      simp only
      rw [eqBolts (by omega) (by rw [List.length_map]; omega) (by rw [List.length_map]; omega), Option.bind_some, if_pos rfl, markBolts (by omega) (by rw [List.length_map]; omega) (by rw [List.length_map]; omega), Option.bind_some]
      simp only
      rw [if_neg (by omega), eqStringS (by omega) (by omega), Option.bind_some, decide_eq_true rfl, if_pos rfl]
      rw [bne_self_eq_false] at hj1
      exact hj1
    rw [if_neg (by omega), toBolts (by omega) (by omega) (by omega), Option.bind_some]
    simp only
    rw [(H (K + 3) (by omega)).1]
    simp only [Option.bind_some]
    rw [(H (K + 3) (by omega)).2]
    simp only [Option.bind_some]
    rw [eqStringS (by omega) (by omega), Option.bind_some, decide_eq_true rfl, if_pos rfl]
    exact hj0

end Go.Proofs.Ytpbgloppcenljaa.Pure
