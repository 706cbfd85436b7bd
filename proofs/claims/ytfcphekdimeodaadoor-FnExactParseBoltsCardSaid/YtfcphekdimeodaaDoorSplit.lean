/- How a text is cut at each semicolon. -/
import Derived.Test.YtfcphekdimeodaaDoorAE
import Derived.Test.YtfcphekdimeodaaDoorAx1
import Derived.Test.YtfcphekdimeodaaDoorNum
set_option linter.unusedVariables false
set_option linter.unusedSimpArgs false
namespace Go.Proofs.YtfcphekdimeodaaDoor.Pure
open Go.RowKit Go.Proofs.YtfcphekdimeodaaDoor.A Go.Proofs.YtfcphekdimeodaaDoorW.PrintWords Go.Proofs.YtfcphekdimeodaaDoorW.PrintLast Go.Proofs.YtfcphekdimeodaaDoorW.PrintMore

/-! a text, cut at each semicolon -/
def spl : List UInt8 → List (List UInt8)
  | [] => [[]]
  | c :: l => if c = 59 then [] :: spl l else match spl l with
    | [] => [[c]]
    | h :: t => (c :: h) :: t
def pre (q : List UInt8) : List (List UInt8) → List (List UInt8)
  | [] => [q]
  | h :: t => (q ++ h) :: t
theorem spl_ne (l : List UInt8) : ∃ h t, spl l = h :: t := by
  cases l with
  | nil => exact ⟨_, _, rfl⟩
  | cons c l =>
    rw [spl]
    split
    · exact ⟨_, _, rfl⟩
    · split <;> exact ⟨_, _, rfl⟩
theorem pre_nil (l : List UInt8) : pre [] (spl l) = spl l := by
  obtain ⟨h, t, e⟩ := spl_ne l
  rw [e]; rfl
theorem pre_semi (q l : List UInt8) : pre q (spl (59 :: l)) = q :: spl l := by
  rw [spl, if_pos rfl, pre, List.append_nil]
theorem pre_step {c : UInt8} (hc : c ≠ 59) (q l : List UInt8) : pre q (spl (c :: l)) = pre (q ++ [c]) (spl l) := by
  rw [spl, if_neg hc]
  obtain ⟨h, t, e⟩ := spl_ne l
  rw [e]; simp [pre]
theorem spl_none : ∀ {l : List UInt8}, (∀ c ∈ l, c ≠ 59) → spl l = [l]
  | [], _ => rfl
  | c :: l, h => by rw [spl, if_neg (h c (by simp)), spl_none (fun x hx => h x (by simp [hx]))]
theorem spl_cut : ∀ (a b : List UInt8), (∀ c ∈ a, c ≠ 59) → spl (a ++ 59 :: b) = a :: spl b
  | [], b, _ => by rw [List.nil_append, spl, if_pos rfl]
  | c :: a, b, h => by rw [List.cons_append, spl, if_neg (h c (by simp)), spl_cut a b (fun x hx => h x (by simp [hx]))]
theorem idx_miss : ∀ {l : List UInt8}, Lib.indexByte l 59 = -1 → ∀ c ∈ l, c ≠ 59
  | [], _ => by simp
  | b :: l, h => by
    unfold Lib.indexByte at h
    by_cases q : b = 59
    · rw [if_pos (by simpa using q)] at h; cases h
    · rw [if_neg (by simpa using q)] at h
      have hl : Lib.indexByte l 59 = -1 := by
        by_cases e : Lib.indexByte l 59 = -1
        · exact e
        · rw [if_neg (by simpa using e)] at h
          have := Lib.indexByte_ge l 59
          omega
      intro c hc
      rcases List.mem_cons.1 hc with rfl | hc
      · exact q
      · exact idx_miss hl c hc
theorem idx_hit : ∀ {l : List UInt8}, Lib.indexByte l 59 ≠ -1 → ∃ a b, l = a ++ 59 :: b ∧ (∀ c ∈ a, c ≠ 59) ∧ Lib.indexByte l 59 = (a.length : Int)
  | [], h => absurd rfl h
  | b :: l, h => by
    by_cases q : b = 59
    · subst q
      exact ⟨[], l, rfl, by simp, by simp [Lib.indexByte]⟩
    · have e : Lib.indexByte (b :: l) 59 = if Lib.indexByte l 59 == -1 then -1 else Lib.indexByte l 59 + 1 := by
        rw [Lib.indexByte, if_neg (by simpa using q)]
      rw [e] at h
      by_cases q2 : Lib.indexByte l 59 = -1
      · rw [if_pos (by simpa using q2)] at h; exact absurd rfl h
      · obtain ⟨a, r, h1, h2, h3⟩ := idx_hit q2
        refine ⟨b :: a, r, by rw [h1]; rfl, ?_, ?_⟩
        · intro c hc
          rcases List.mem_cons.1 hc with rfl | hc
          · exact q
          · exact h2 c hc
        · rw [e, if_neg (by simpa using q2), h3]; simp
theorem splitK_spl : ∀ (k : Nat) (l : List UInt8), l.count 59 = k → Lib.splitK [59] 0 k l = spl l
  | 0, l, h => by
    rw [Lib.splitK, spl_none]
    intro c hc e
    subst e
    have := List.count_pos_iff.2 hc
    omega
  | k + 1, l, h => by
    rw [Lib.splitK, Lib.index_one]
    by_cases q : Lib.indexByte l 59 = -1
    · have := idx_miss q
      have hz : l.count 59 = 0 := List.count_eq_zero.2 (fun hc => this _ hc rfl)
      omega
    · obtain ⟨a, b, e, ha, hi⟩ := idx_hit q
      rw [if_neg (by simpa using q), hi]
      have hc : b.count 59 = k := by
        have hz : a.count 59 = 0 := List.count_eq_zero.2 (fun hc => ha _ hc rfl)
        rw [e, List.count_append, hz, List.count_cons_self] at h
        omega
      subst e
      have e1 : (a ++ 59 :: b).take (((a.length : Int)).toNat + 0) = a := by rw [Int.toNat_natCast, Nat.add_zero]; simp
      have e2 : (a ++ 59 :: b).drop (((a.length : Int)).toNat + [(59 : UInt8)].length) = b := by
        rw [Int.toNat_natCast, show ([(59 : UInt8)]).length = 1 from rfl, ← List.drop_drop, List.drop_left' rfl]; rfl
      rw [e1, e2, splitK_spl k b hc, spl_cut a b ha]
theorem splitB_spl (l : List UInt8) : Lib.splitB ⟨#[59]⟩ 0 (Lib.countB (tx l) ⟨#[59]⟩) (tx l) = (spl l).map tx := by
  have h := Lib.splitB_data ⟨#[59]⟩ 0 (Lib.countB (tx l) ⟨#[59]⟩) (tx l)
  have hc : Lib.countB (tx l) ⟨#[59]⟩ = l.count 59 := by
    have := Lib.count_one 59 (tx l).data.toList
    rw [tx_data] at this
    exact (show Lib.countB (tx l) ⟨#[59]⟩ = Lib.count (tx l).data.toList [59] from rfl).trans (by rw [tx_data]; exact this)
  rw [tx_data, show (⟨#[59]⟩ : ByteArray).data.toList = [59] from rfl, splitK_spl _ l hc.symm] at h
  have h2 := congrArg (List.map tx) h
  rw [List.map_map] at h2
  rw [← h2]
  conv => lhs; rw [← List.map_id (Lib.splitB ⟨#[59]⟩ 0 (Lib.countB (tx l) ⟨#[59]⟩) (tx l))]
  apply List.map_congr_left
  intro s _
  exact tx_of s
theorem implSplit {l : List UInt8} (hl : l.length ≤ 1048576) : strings_Split.f (tx l) (⟨#[59]⟩ : ByteArray) = some ((spl l).map tx) := by
  unfold strings_Split.f
  rw [if_pos ⟨by rw [tx_size]; omega, rfl⟩, splitB_spl]
theorem extract_tx (l : List UInt8) (a b : Nat) : (tx l).extract a b = tx ((l.take b).drop a) := by
  apply ByteArray.ext
  simp [tx, ByteArray.data_extract, List.drop_take]
theorem specSplit_l0 {l : List UInt8} (hl : l.length ≤ 1048576) (r : List UInt8) : ∀ (k i f : Nat) (out : List ByteArray), l.drop i = r → f ≤ i → i ≤ l.length → out.length ≤ i → r.length < k →
    spec_l1Split.l0 k (tx l) 59 out (f : Int) (i : Int) = some (out ++ (pre ((l.take i).drop f) (spl r)).map tx) := by
  induction r with
  | nil =>
    intro k i f out hd hf hi ho hk
    obtain ⟨k, rfl⟩ : ∃ m, k = m + 1 := ⟨k - 1, by omega⟩
    have hle : l.length ≤ i := List.drop_eq_nil_iff.1 hd
    rw [spec_l1Split.l0, if_neg (by rw [tx_size]; omega), if_pos (by omega), if_pos (by rw [tx_size]; omega), if_pos (by omega), Int.toNat_natCast, extract_tx, tx_size, List.take_length, List.take_of_length_le hle]
    simp [spl, pre]
  | cons c r ih =>
    intro k i f out hd hf hi ho hk
    obtain ⟨k, rfl⟩ : ∃ m, k = m + 1 := ⟨k - 1, by omega⟩
    obtain ⟨g1, g2, g3⟩ := getElem?_drop_cons hd
    simp only [List.length_cons] at hk
    have hb : bt (tx l) (i : Int) = (c.toNat : Int) := by rw [bt_tx, List.getD, g1]; rfl
    have e1 : wrap64 ((i : Int) + 1) = ((i + 1 : Nat) : Int) := by rw [w64 (by omega) (by omega)]; omega
    rw [spec_l1Split.l0, if_pos (by rw [tx_size]; omega), if_pos (by omega), hb, e1]
    by_cases q : c = 59
    · subst q
      rw [if_pos (by decide), if_pos (by omega), if_pos (by omega), if_pos (by rw [tx_size]; omega), if_pos (by omega), Int.toNat_natCast, Int.toNat_natCast, extract_tx]
      rw [ih k (i + 1) (i + 1) _ g2 (by omega) (by omega) (by simp; omega) (by omega), pre_semi]
      have : (l.take (i + 1)).drop (i + 1) = [] := List.drop_eq_nil_iff.2 (by rw [List.length_take]; omega)
      rw [this, pre_nil]
      simp
    · have hq : ¬ ((c.toNat : Int) = 59) := fun h => q (by apply UInt8.toNat_inj.1; show c.toNat = 59; omega)
      rw [if_neg hq, ih k (i + 1) f out g2 (by omega) (by omega) (by omega) (by omega), pre_step q]
      have : (l.take (i + 1)).drop f = (l.take i).drop f ++ [c] := by
        rw [List.take_add_one, g1, List.drop_append_of_le_length (by rw [List.length_take]; omega)]; rfl
      rw [this]
theorem specSplit {l : List UInt8} {k : Nat} (hl : l.length ≤ 1048576) (hk : l.length < k) : spec_l1Split.f k (tx l) 59 = some ((spl l).map tx) := by
  unfold spec_l1Split.f
  have := specSplit_l0 hl l k 0 0 [] (by simp) (by omega) (by omega) (by simp) hk
  simp only [List.take_zero, List.drop_nil, pre_nil, List.nil_append] at this
  exact this

end Go.Proofs.YtfcphekdimeodaaDoor.Pure
