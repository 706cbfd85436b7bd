/- The law FnExactRankOfText, told over plain functions, holds for all arguments; no condition beyond the kinds of the numbers and the texts' sizes that any argument has. -/
import Derived.Test.YtgmmplcijhibgaaDoorAE
import Derived.Test.YtgmmplcijhibgaaDoorAx1
import Derived.Test.YtgmmplcijhibgaaDoorAx2
import Derived.Test.YtgmmplcijhibgaaDoorAx8
import Derived.Test.YtgmmplcijhibgaaDoorAx9
import Derived.Test.YtgmmplcijhibgaaDoorRing
set_option linter.unusedVariables false
set_option linter.unusedSimpArgs false
namespace Go.Proofs.YtgmmplcijhibgaaDoor.Pure
open Go.RowKit Go.Proofs.YtgmmplcijhibgaaDoor.A Go.Proofs.YtgmmplcijhibgaaDoorW.PrintWords Go.Proofs.YtgmmplcijhibgaaDoorW.PrintLast Go.Proofs.YtgmmplcijhibgaaDoorW.PrintMore

theorem nuBack_l0 (d : Nat) : ∀ (k g n : Nat), g < 2 ^ d → d ≤ 62 → n < 2 ^ 62 → d < k → spec_nuBack.l0 k (g : Int) (n : Int) = some ((n ^^^ M.inv g : Nat) : Int) := by
  induction d with
  | zero =>
    intro k g n hg hd hn hk
    obtain ⟨k, rfl⟩ : ∃ m, k = m + 1 := ⟨k - 1, by omega⟩
    have : g = 0 := by simp at hg; omega
    subst this
    simp only [spec_nuBack.l0]
    rw [if_neg (by omega), M.inv_zero, Nat.xor_zero]
  | succ d ih =>
    intro k g n hg hd hn hk
    obtain ⟨k, rfl⟩ : ∃ m, k = m + 1 := ⟨k - 1, by omega⟩
    have hg2 : g < 2 ^ 62 := Nat.lt_of_lt_of_le hg (Nat.pow_le_pow_right (by decide) hd)
    rw [Nat.pow_succ] at hg
    simp only [spec_nuBack.l0]
    by_cases h0 : g = 0
    · subst h0; rw [if_neg (by omega), M.inv_zero, Nat.xor_zero]
    · rw [if_pos (by omega), xor_nat (by omega) (by omega), show ((g : Int) / 2) = ((g / 2 : Nat) : Int) by omega]
      rw [ih k (g / 2) (n ^^^ g) (by omega) (by omega) (Nat.xor_lt_two_pow hn hg2) (by omega), Nat.xor_assoc, ← M.inv_eq]
theorem nuBack {g k : Nat} (hg : g < 2 ^ 62) (hk : 62 < k) : spec_nuBack.f k (g : Int) = some (M.inv g : Int) := by
  have := nuBack_l0 62 k g 0 hg (by omega) (by decide) hk
  rw [Nat.zero_xor] at this
  exact this

def ev : Nat → List Bool → Nat
  | g, [] => g
  | g, b :: r => ev (2 * g + M.b2 b) r
theorem ev_lt (r : List Bool) : ∀ (g i : Nat), g < 2 ^ i → ev g r < 2 ^ (i + r.length) := by
  induction r with
  | nil => intro g i h; exact h
  | cons b r ih =>
    intro g i h
    have hb := M.b2_le b
    have := ih (2 * g + M.b2 b) (i + 1) (by rw [Nat.pow_succ]; omega)
    rw [ev, List.length_cons, show i + (r.length + 1) = i + 1 + r.length by omega]; exact this
theorem digit (b : Bool) : (((if b then 49 else 48 : Int) - 48) % 256) = (M.b2 b : Int) := by cases b <;> rfl
theorem sb_byte2 {bs : List Bool} {i : Nat} (h : i < (sb bs).size) : ((sb bs)[i]'h).toNat = 48 ∨ ((sb bs)[i]'h).toNat = 49 := by
  have h' : i < bs.length := by rwa [sb_size] at h
  obtain ⟨b, hb, hd⟩ := drop_cons' h'
  have e := bt_at (sb bs) (i : Int) (by simpa using h)
  rw [bt_sb hb] at e
  simp only [Int.toNat_natCast] at e
  cases b
  · simp at e; omega
  · simp at e; omega
theorem specRank_l0 {bs : List Bool} (hl : bs.length ≤ 40) (r : List Bool) : ∀ (k i g : Nat), bs.drop i = r → i ≤ bs.length → g < 2 ^ i → r.length + 65 < k →
    spec_RankOfText.l0 k (sb bs) (g : Int) i = some ((M.inv (ev g r) : Int), true) := by
  induction r with
  | nil =>
    intro k i g hd hi hg hk
    obtain ⟨k, rfl⟩ : ∃ m, k = m + 1 := ⟨k - 1, by omega⟩
    have : bs.length ≤ i := List.drop_eq_nil_iff.1 hd
    have hp : 2 ^ i ≤ 2 ^ 40 := Nat.pow_le_pow_right (by decide) (by omega)
    rw [spec_RankOfText.l0, dif_neg (by rw [sb_size]; omega), nuBack (by omega) (by omega)]; rfl
  | cons b r ih =>
    intro k i g hd hi hg hk
    obtain ⟨k, rfl⟩ : ∃ m, k = m + 1 := ⟨k - 1, by omega⟩
    obtain ⟨h2, h3, h4⟩ := getElem?_drop_cons hd
    simp only [List.length_cons] at hk
    have hp : 2 ^ i ≤ 2 ^ 40 := Nat.pow_le_pow_right (by decide) (by omega)
    have hb := M.b2_le b
    have hs : i < (sb bs).size := by rw [sb_size]; omega
    rw [spec_RankOfText.l0, dif_pos hs, if_pos (sb_byte2 hs), bt_sb h2, digit, w64 (x := 2 * (g : Int)) (by omega) (by omega), w64 (by omega) (by omega), show (2 * (g : Int) + (M.b2 b : Int)) = ((2 * g + M.b2 b : Nat) : Int) by omega, ev]
    exact ih k (i + 1) _ h3 (by omega) (by rw [Nat.pow_succ]; omega) (by omega)
theorem implRank_l0 {bs : List Bool} (hl : bs.length ≤ 40) (r : List Bool) : ∀ (k i g : Nat), bs.drop i = r → i ≤ bs.length → g < 2 ^ i → r.length + 65 < k →
    impl_RankOfText.l0 k (sb bs) (g : Int) (bs.length : Int) (i : Int) = some ((M.inv (ev g r) : Int), true) := by
  induction r with
  | nil =>
    intro k i g hd hi hg hk
    obtain ⟨k, rfl⟩ : ∃ m, k = m + 1 := ⟨k - 1, by omega⟩
    have : bs.length ≤ i := List.drop_eq_nil_iff.1 hd
    have hp : 2 ^ i ≤ 2 ^ 40 := Nat.pow_le_pow_right (by decide) (by omega)
    rw [impl_RankOfText.l0, if_neg (by omega), unreflected (by omega) (by omega)]; rfl
  | cons b r ih =>
    intro k i g hd hi hg hk
    obtain ⟨k, rfl⟩ : ∃ m, k = m + 1 := ⟨k - 1, by omega⟩
    obtain ⟨h2, h3, h4⟩ := getElem?_drop_cons hd
    simp only [List.length_cons] at hk
    have hp : 2 ^ i ≤ 2 ^ 40 := Nat.pow_le_pow_right (by decide) (by omega)
    have hb := M.b2_le b
    rw [impl_RankOfText.l0, if_pos (by omega), if_pos (by omega), sb_size, if_pos (by omega), bt_sb h2, digit, w64 (x := 2 * (g : Int)) (by omega) (by omega), w64 (x := 2 * (g : Int) + (M.b2 b : Int)) (by omega) (by omega), w64 (x := (i : Int) + 1) (by omega) (by omega), show (2 * (g : Int) + (M.b2 b : Int)) = ((2 * g + M.b2 b : Nat) : Int) by omega, show ((i : Int) + 1) = ((i + 1 : Nat) : Int) by omega, ev]
    exact ih k (i + 1) _ h3 (by omega) (by rw [Nat.pow_succ]; omega) (by omega)
/-- a text with another sign falls, at the first of them -/
theorem specRank_bad {l : List UInt8} (hl : l.length ≤ 40) (r : List UInt8) : ∀ (k i : Nat) (g : Int), l.drop i = r → r.all isB = false → r.length < k →
    spec_RankOfText.l0 k (tx l) g i = some (0, false) := by
  induction r with
  | nil => intro k i g hd ha; cases ha
  | cons b r ih =>
    intro k i g hd ha hk
    obtain ⟨k, rfl⟩ : ∃ m, k = m + 1 := ⟨k - 1, by omega⟩
    obtain ⟨h2, h3, h4⟩ := getElem?_drop_cons hd
    simp only [List.length_cons] at hk
    have hs : i < (tx l).size := by rw [tx_size]; omega
    have e := bt_at (tx l) (i : Int) (by simpa using hs)
    rw [bt_drop hd] at e
    simp only [Int.toNat_natCast] at e
    have e' : ((tx l)[i]'hs).toNat = b.toNat := by omega
    rw [spec_RankOfText.l0, dif_pos hs, e']
    by_cases q : b.toNat = 48 ∨ b.toNat = 49
    · rw [if_pos q]
      refine ih k (i + 1) _ h3 ?_ (by omega)
      have : isB b = true := by
        unfold isB
        rw [decide_eq_true_eq]
        rcases q with q | q
        · exact .inl ((u8_48 b).1 (by omega))
        · exact .inr ((u8_49 b).1 (by omega))
      rw [List.all_cons, this, Bool.true_and] at ha
      exact ha
    · rw [if_neg q]
theorem all_sg {l : List UInt8} (h : l.all isB = true) : ∃ bs : List Bool, l = bs.map sg := by
  refine ⟨l.map fun c => decide (c = 49), ?_⟩
  rw [List.map_map]
  conv => lhs; rw [← List.map_id l]
  apply List.map_congr_left
  intro c hc
  have := List.all_eq_true.1 h c hc
  unfold isB at this
  rw [decide_eq_true_eq] at this
  rcases this with rfl | rfl <;> rfl
theorem FnExactRankOfText : laws_FnExactRankOfText.Pure := by
  intro s hs
  refine ⟨300, ?_⟩
  unfold laws_FnExactRankOfText.f
  by_cases hbig : (s.size : Int) > 1048576
  · rw [if_pos hbig]
  rw [if_neg hbig]
  suffices h : ∃ r : Int × Bool, spec_RankOfText.f 300 s = some r ∧ impl_RankOfText.f 300 s = some r by
    obtain ⟨r, h1, h2⟩ := h
    rw [h1, h2]
    simp
  obtain ⟨l, rfl⟩ : ∃ l, s = tx l := ⟨s.data.toList, tx_of s⟩
  unfold spec_RankOfText.f impl_RankOfText.f spec_l1In.f impl_in.f
  rw [tx_size] at hs ⊢
  by_cases h1 : 1 ≤ l.length
  · have g1 : (l.length : Int) ≥ 1 := by omega
    by_cases h2 : l.length ≤ 40
    · have g2 : (l.length : Int) ≤ 40 := by omega
      have ht : strings_Trim.f (tx l) (⟨#[48, 49]⟩ : ByteArray) = some (tx (Lib.trimS l [48, 49])) := by
        rw [show (⟨#[48, 49]⟩ : ByteArray) = tx [48, 49] from rfl, trim_f (by omega) (by decide) (by decide)]
      have key : ((tx (Lib.trimS l [48, 49])).toList != ([] : List UInt8)) = !(l.all isB) := by
        rw [bne, tx_toList, nil_beq]
        congr 1
        rw [Bool.eq_iff_iff, List.isEmpty_iff, trim_nil, List.all_eq_true]
        constructor
        · intro h c hc; have := h c hc; simpa [isB] using this
        · intro h c hc; have := h c hc; simpa [isB] using this
      simp only [g1, g2, if_true, decide_true, Option.bind_some, ht, key]
      cases q : l.all isB with
      | true =>
        obtain ⟨bs, rfl⟩ := all_sg q
        have hb : bs.length ≤ 40 := by simpa using h2
        have e1 := specRank_l0 hb bs 300 0 0 (by simp) (by omega) (by decide) (by omega)
        have e2 := implRank_l0 hb bs 299 0 0 (by simp) (by omega) (by decide) (by omega)
        refine ⟨_, e1, ?_⟩
        rw [impl_RankOfText.j0]
        have hz : (tx (bs.map sg)).size = bs.length := by rw [tx_size, List.length_map]
        simp only [Bool.not_true, Bool.false_eq_true, if_false, hz]
        exact e2
      | false =>
        refine ⟨(0, false), specRank_bad h2 l 300 0 0 (by simp) q (by omega), ?_⟩
        rw [impl_RankOfText.j0]
        simp
    · have g2 : ¬ (l.length : Int) ≤ 40 := by omega
      simp only [g1, g2, if_true, decide_false, Option.bind_some, Bool.false_eq_true, if_false]
      exact ⟨_, rfl, by rw [impl_RankOfText.j0]; simp⟩
  · have g1 : ¬ (l.length : Int) ≥ 1 := by omega
    simp only [g1, if_false, Option.bind_some, Bool.false_eq_true]
    exact ⟨_, rfl, by rw [impl_RankOfText.j0]; simp⟩

end Go.Proofs.YtgmmplcijhibgaaDoor.Pure
