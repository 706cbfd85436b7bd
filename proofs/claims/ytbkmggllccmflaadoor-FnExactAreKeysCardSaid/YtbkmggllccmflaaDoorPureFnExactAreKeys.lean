/- The law FnExactAreKeys, told over plain functions, holds for all rows of texts that are no longer than a row or a text can be. -/
import Derived.Test.YtbkmggllccmflaaDoorAx1
import Derived.Test.YtbkmggllccmflaaDoorAx2
import Derived.Test.YtbkmggllccmflaaDoorKeys
set_option linter.unusedVariables false
set_option linter.unusedSimpArgs false
namespace Go.Proofs.YtbkmggllccmflaaDoor.Pure
open Go.RowKit Go.Proofs.YtbkmggllccmflaaDoor.A Go.Proofs.YtbkmggllccmflaaDoorW.PrintWords Go.Proofs.YtbkmggllccmflaaDoorW.PrintLast Go.Proofs.YtbkmggllccmflaaDoorW.PrintMore

theorem in_decK (n a b : Int) : spec_l1In.f n a b = some (decide (a ≤ n ∧ n ≤ b)) := by
  unfold spec_l1In.f
  by_cases h : n ≥ a
  · rw [if_pos h]; have h' : a ≤ n := h; simp [h']
  · rw [if_neg h]; have h' : ¬ a ≤ n := h; simp [h']
theorem in_valK (n a b : Int) : impl_in.f n a b = some (decide (a ≤ n ∧ n ≤ b)) := by
  unfold impl_in.f
  by_cases h : n ≥ a
  · rw [if_pos h]; have h' : a ≤ n := h; simp [h']
  · rw [if_neg h]; have h' : ¬ a ≤ n := h; simp [h']
/-- signs of keys -/
def ks (l : List UInt8) : Bool := l.all fun b => b == 48 || (b == 49 || b == 63)
/-- a key at a place -/
def kb (n i : Nat) (s : ByteArray) : Bool := decide (s.size = n) && (decide (bt s (i : Int) = 63) && ks s.data.toList)
def allK (n : Nat) : Nat → List ByteArray → Bool
  | _, [] => true
  | i, s :: r => kb n i s && allK n (i + 1) r
theorem bt_data {s : ByteArray} {j : Nat} {b : UInt8} (h : s.data.toList[j]? = some b) : bt s (j : Int) = (b.toNat : Int) := by
  rw [tx_of s, bt_tx, List.getD, h]; rfl
theorem u8_eq (b : UInt8) (n : Nat) (hn : n < 256) : (b.toNat : Int) = (n : Int) ↔ b = UInt8.ofNat n := by
  constructor
  · intro h
    have : b.toNat = n := by omega
    rw [← this]; simp
  · intro h
    rw [h]; simp [Nat.mod_eq_of_lt hn]
theorem keys_l1 {l : List ByteArray} {s : ByteArray} {i : Nat} {b : Bool} {K : Nat} (hs : s.size ≤ 20) (hnext : ∀ k', K < k' → spec_keGood.l0 k' l l (l.length : Int) (wrap64 ((i : Int) + 1)) = some b) (r : List UInt8) : ∀ (k j : Nat), s.data.toList.drop j = r → K + r.length + 1 < k →
    spec_keGood.l1 k l s (j : Int) l (l.length : Int) (i : Int) = some (ks r && b) := by
  have hsz : s.data.toList.length = s.size := by simp
  induction r with
  | nil =>
    intro k j hd hk
    obtain ⟨k, rfl⟩ : ∃ m, k = m + 1 := ⟨k - 1, by omega⟩
    have : s.data.toList.length ≤ j := List.drop_eq_nil_iff.1 hd
    rw [spec_keGood.l1, if_neg (by omega), hnext k (by simp at hk; omega)]; rfl
  | cons c r ih =>
    intro k j hd hk
    obtain ⟨k, rfl⟩ : ∃ m, k = m + 1 := ⟨k - 1, by omega⟩
    obtain ⟨h2, h3, h4⟩ := getElem?_drop_cons hd
    have hi := ih k (j + 1) h3 (by simp at hk; omega)
    rw [spec_keGood.l1, if_pos (by omega), if_pos (by omega), bt_data h2, w64 (x := (j : Int) + 1) (by omega) (by omega), show ((j : Int) + 1) = ((j + 1 : Nat) : Int) by omega, hi]
    have e63 : (c.toNat : Int) = 63 ↔ c = 63 := u8_eq c 63 (by decide)
    have e48 : (c.toNat : Int) = 48 ↔ c = 48 := u8_eq c 48 (by decide)
    have e49 : (c.toNat : Int) = 49 ↔ c = 49 := u8_eq c 49 (by decide)
    have hks : ks (c :: r) = ((c == 48 || (c == 49 || c == 63)) && ks r) := rfl
    rw [hks]
    by_cases q1 : c = 63
    · subst q1; rw [if_pos (e63.2 rfl)]; rfl
    · rw [if_neg (fun z => q1 (e63.1 z))]
      by_cases q2 : c = 48
      · subst q2; rw [if_pos (e48.2 rfl)]; rfl
      · rw [if_neg (fun z => q2 (e48.1 z))]
        by_cases q3 : c = 49
        · subst q3; rw [if_pos (e49.2 rfl)]; rfl
        · rw [if_neg (fun z => q3 (e49.1 z))]
          simp [q1, q2, q3]
theorem keys_l0 {l : List ByteArray} (hl : l.length ≤ 10) (r : List ByteArray) : ∀ (k i : Nat), l.drop i = r → r.length * 20 + 2 < k →
    spec_keGood.l0 k l l (l.length : Int) (i : Int) = some (allK l.length i r) := by
  induction r with
  | nil =>
    intro k i hd hk
    obtain ⟨k, rfl⟩ : ∃ m, k = m + 1 := ⟨k - 1, by omega⟩
    have : l.length ≤ i := List.drop_eq_nil_iff.1 hd
    rw [spec_keGood.l0, if_neg (by omega)]; rfl
  | cons s r ih =>
    intro k i hd hk
    obtain ⟨k, rfl⟩ : ∃ m, k = m + 2 := ⟨k - 2, by omega⟩
    obtain ⟨h2, h3, h4⟩ := getElem?_drop_cons hd
    rw [List.length_cons] at hk
    rw [spec_keGood.l0, if_pos (by omega), if_pos (by omega), if_pos (by omega), rdOf_nat h2, allK, kb]
    by_cases q : s.size = l.length
    · rw [if_pos (by omega), if_pos (by omega), spec_keGood.j1, decide_eq_true q, Bool.true_and]
      by_cases q2 : bt s (i : Int) = 63
      · have hb : (bt s (i : Int) != 63) = false := by simp [q2]
        have hn : ∀ k', r.length * 20 + 2 < k' → spec_keGood.l0 k' l l (l.length : Int) (wrap64 ((i : Int) + 1)) = some (allK l.length (i + 1) r) := by
          intro k' hk'
          rw [w64 (by omega) (by omega), show ((i : Int) + 1) = ((i + 1 : Nat) : Int) by omega]
          exact ih k' (i + 1) h3 hk'
        have hsz : s.data.toList.length = s.size := by simp
        have := keys_l1 (l := l) (s := s) (i := i) (by omega) hn s.data.toList k 0 (by simp) (by omega)
        rw [hb, decide_eq_true q2, Bool.true_and]
        simpa using this
      · have hb : (bt s (i : Int) != 63) = true := by simp [q2]
        rw [hb, decide_eq_false q2]; rfl
    · rw [if_neg (by omega), spec_keGood.j1, decide_eq_false q]; rfl
theorem isNeed {s : ByteArray} {n : Nat} (hs : s.size ≤ 140737488351232) : impl_isNeed.f s (n : Int) = some (decide (s.size = n) && ks s.data.toList) := by
  have hsz : s.data.toList.length = s.size := by simp
  unfold impl_isNeed.f
  by_cases q : s.size = n
  · have key : (Lib.trimS s.data.toList [48, 49, 63]).isEmpty = ks s.data.toList := by
      rw [Bool.eq_iff_iff, List.isEmpty_iff, trim_nil, ks, List.all_eq_true]
      constructor
      · intro h c hc; have := h c hc; simpa [or_assoc] using this
      · intro h c hc; have := h c hc; simpa [or_assoc] using this
    have ht := trim_f (l := s.data.toList) (cs := [48, 49, 63]) (by omega) (by decide) (by decide)
    rw [← tx_of s] at ht
    rw [if_pos (by omega), show (⟨#[48, 49, 63]⟩ : ByteArray) = tx [48, 49, 63] from rfl, ht]
    simp only [Option.bind_some, tx_toList, nil_beq, key, decide_eq_true q, Bool.true_and]
  · rw [if_neg (by omega), decide_eq_false q]; rfl
theorem implKeys_l0 {l : List ByteArray} (hl : l.length ≤ 2000000) (hz : ∀ s ∈ l, s.size ≤ 140737488351232) (r : List ByteArray) : ∀ (k i : Nat), l.drop i = r → r.length < k →
    impl_AreKeys.l0 k l l (l.length : Int) (i : Int) = some (allK l.length i r && decide (1 ≤ (l.length : Int) ∧ (l.length : Int) ≤ 10)) := by
  induction r with
  | nil =>
    intro k i hd hk
    obtain ⟨k, rfl⟩ : ∃ m, k = m + 1 := ⟨k - 1, by omega⟩
    have : l.length ≤ i := List.drop_eq_nil_iff.1 hd
    rw [impl_AreKeys.l0, if_neg (by omega), in_valK]; rfl
  | cons s r ih =>
    intro k i hd hk
    obtain ⟨k, rfl⟩ : ∃ m, k = m + 1 := ⟨k - 1, by omega⟩
    obtain ⟨h2, h3, h4⟩ := getElem?_drop_cons hd
    have hi := ih k (i + 1) h3 (by simp at hk; omega)
    rw [impl_AreKeys.l0, if_pos (by omega), if_pos (by omega), if_pos (by omega), rdOf_nat h2, isNeed (hz s (List.mem_of_getElem? h2)), allK, kb]
    simp only [Option.bind_some]
    by_cases q : s.size = l.length
    · rw [decide_eq_true q]
      cases hk2 : ks s.data.toList with
      | false => simp
      | true =>
        simp only [Bool.and_true, Bool.true_and, if_true]
        rw [if_pos (by omega)]
        by_cases q2 : bt s (i : Int) = 63
        · rw [if_pos q2, decide_eq_true q2, Bool.true_and, w64 (by omega) (by omega), show ((i : Int) + 1) = ((i + 1 : Nat) : Int) by omega]
          exact hi
        · rw [if_neg q2, decide_eq_false q2]; rfl
    · rw [decide_eq_false q]; simp
theorem szS_l0 {l : List ByteArray} (hl : l.length ≤ 2000000) (r : List ByteArray) : ∀ (k i : Nat) (x : Int), l.drop i = r → (∀ s ∈ r, s.size ≤ maxLen) → 0 ≤ x → x ≤ 1048576 → r.length < k →
    ∃ t, laws_szStringS.l0 k l x (i : Int) = some t ∧ (t < 0 ∨ ∀ s ∈ r, s.size ≤ 1048576) := by
  induction r with
  | nil =>
    intro k i x hd _ hx _ hk
    obtain ⟨k, rfl⟩ : ∃ m, k = m + 1 := ⟨k - 1, by omega⟩
    have : l.length ≤ i := List.drop_eq_nil_iff.1 hd
    rw [laws_szStringS.l0, if_neg (by omega)]
    exact ⟨x, rfl, .inr (fun s hs => by simp at hs)⟩
  | cons s r ih =>
    intro k i x hd hz hx hx2 hk
    obtain ⟨k, rfl⟩ : ∃ m, k = m + 1 := ⟨k - 1, by omega⟩
    obtain ⟨h2, h3, h4⟩ := getElem?_drop_cons hd
    have hs := hz s (by simp)
    unfold maxLen at hs
    rw [laws_szStringS.l0, if_pos (by omega), if_pos (by omega), rdOf_nat h2, w64 (x := x - (s.size : Int)) (by omega) (by omega)]
    by_cases c : x - (s.size : Int) < 0
    · rw [if_pos c]
      exact ⟨-1, rfl, .inl (by omega)⟩
    · rw [if_neg c, w64 (by omega) (by omega), show ((i : Int) + 1) = ((i + 1 : Nat) : Int) by omega]
      obtain ⟨t, ht, hc⟩ := ih k (i + 1) (x - (s.size : Int)) h3 (fun y hy => hz y (by simp [hy])) (by omega) (by omega) (by simp at hk; omega)
      refine ⟨t, ht, ?_⟩
      rcases hc with hc | hc
      · exact .inl hc
      · refine .inr (fun y hy => ?_)
        rcases List.mem_cons.1 hy with rfl | hy
        · omega
        · exact hc y hy
theorem szStringS (l : List ByteArray) (h0 : l.length ≤ maxLen) (hz : ∀ s ∈ l, s.size ≤ maxLen) (k : Nat) (hk : l.length < k) : ∃ t, laws_szStringS.f k l 1048576 = some t ∧ (t < 0 ∨ (0 ≤ t ∨ True) ∧ l.length ≤ 1048576 ∧ ∀ s ∈ l, s.size ≤ 1048576) := by
  unfold maxLen at h0
  unfold laws_szStringS.f
  rw [w64 (x := 1048576 - (l.length : Int)) (by omega) (by omega)]
  by_cases c1 : 1048576 - (l.length : Int) < 0
  · rw [if_pos c1]
    exact ⟨-1, rfl, .inl (by omega)⟩
  · rw [if_neg c1]
    obtain ⟨t, ht, hc⟩ := szS_l0 (l := l) (by omega) l k 0 (1048576 - (l.length : Int)) (by simp) hz (by omega) (by omega) hk
    refine ⟨t, ht, ?_⟩
    rcases hc with hc | hc
    · exact .inl hc
    · exact .inr ⟨.inr trivial, by omega, hc⟩
theorem toStringS_l0 (d : Nat) : ∀ (k i : Nat) (x y : List ByteArray), i + d = x.length → y.length = x.length → x.length ≤ 281474976710656 → d < k →
    laws_toStringS.l0 k x y (i : Int) = some (y.take i ++ x.drop i) := by
  induction d with
  | zero =>
    intro k i x y hi hy hx hk
    obtain ⟨k, rfl⟩ : ∃ m, k = m + 1 := ⟨k - 1, by omega⟩
    simp only [laws_toStringS.l0]
    rw [if_neg (by omega), List.take_of_length_le (by omega), List.drop_of_length_le (by omega), List.append_nil]
  | succ d ih =>
    intro k i x y hi hy hx hk
    obtain ⟨k, rfl⟩ : ∃ m, k = m + 1 := ⟨k - 1, by omega⟩
    obtain ⟨a, r, ha⟩ := drop_cons (l := x) (i := i) (by omega)
    obtain ⟨h2, h3, h4⟩ := getElem?_drop_cons ha
    simp only [laws_toStringS.l0]
    rw [if_pos (by omega), if_pos (by omega), if_pos (by omega), rdOf_nat h2, w64 (by omega) (by omega), Int.toNat_natCast, show ((i : Int) + 1) = ((i + 1 : Nat) : Int) by omega]
    rw [ih k (i + 1) x (y.set i a) (by omega) (by simpa using hy) hx (by omega)]
    rw [ha, h3, List.take_add_one, List.take_set_of_le (Nat.le_refl i), List.getElem?_set_self (by omega)]; simp
theorem toStringS {l : List ByteArray} {k : Nat} (hl : l.length ≤ 2000000) (hk : l.length < k) : laws_toStringS.f k l = some l := by
  unfold laws_toStringS.f
  rw [if_pos (by omega), Int.toNat_natCast, if_pos (by omega)]
  have := toStringS_l0 l.length k 0 l (List.replicate l.length ⟨#[]⟩) (by omega) (by simp) (by omega) hk
  simpa using this
theorem FnExactAreKeys (l : List ByteArray) (h0 : l.length ≤ maxLen) (hz : ∀ s ∈ l, s.size ≤ maxLen) : ∃ k, laws_FnExactAreKeys.f k l = some true := by
  obtain ⟨t, ht, hc⟩ := szStringS l h0 hz (l.length * 20 + 100) (by omega)
  refine ⟨l.length * 20 + 100, ?_⟩
  unfold laws_FnExactAreKeys.f
  rw [ht]
  simp only [Option.bind_some]
  by_cases htn : t < 0
  · rw [if_pos htn]
  · rcases hc with hc | ⟨_, hl, hs⟩
    · exact absurd hc htn
    have hi : impl_AreKeys.f (l.length * 20 + 100) l = some (allK l.length 0 l && decide (1 ≤ (l.length : Int) ∧ (l.length : Int) ≤ 10)) := by
      unfold impl_AreKeys.f
      exact implKeys_l0 (by omega) (fun s hs' => by have := hs s hs'; omega) l _ 0 (by simp) (by omega)
    have hsp : spec_AreKeys.f (l.length * 20 + 100) l = some (allK l.length 0 l && decide (1 ≤ (l.length : Int) ∧ (l.length : Int) ≤ 10)) := by
      unfold spec_AreKeys.f spec_keGood.f
      rw [in_decK]
      by_cases q : 1 ≤ (l.length : Int) ∧ (l.length : Int) ≤ 10
      · have := keys_l0 (l := l) (by omega) l (l.length * 20 + 100) 0 (by simp) (by omega)
        have e : spec_keGood.l0 (l.length * 20 + 100) l l (l.length : Int) 0 = some (allK l.length 0 l) := this
        rw [decide_eq_true q, Bool.and_true]
        simp only [Option.bind_some, if_true, e]
      · rw [decide_eq_false q, Bool.and_false]; rfl
    rw [if_neg htn, toStringS (by omega) (by omega)]
    simp only [Option.bind_some]
    rw [hi, hsp]
    simp only [Option.bind_some, bne_self_eq_false, Bool.false_eq_true, if_false]
    rw [eqStringS (by omega) (by omega)]
    simp

end Go.Proofs.YtbkmggllccmflaaDoor.Pure
