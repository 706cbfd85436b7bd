/- What the printed functions of states give. -/
import Derived.Test.YtahdlpadcbigaaaDoorAE
import Derived.Test.YtahdlpadcbigaaaDoorAx1
import Derived.Test.YtahdlpadcbigaaaDoorAx2
import Derived.Test.YtahdlpadcbigaaaDoorAx3
import Derived.Test.YtahdlpadcbigaaaDoorNum
set_option linter.unusedVariables false
set_option linter.unusedSimpArgs false
namespace Go.Proofs.YtahdlpadcbigaaaDoor.Pure
open Go.RowKit Go.Proofs.YtahdlpadcbigaaaDoor.A Go.Proofs.YtahdlpadcbigaaaDoorW.PrintWords Go.Proofs.YtahdlpadcbigaaaDoorW.PrintLast Go.Proofs.YtahdlpadcbigaaaDoorW.PrintMore

theorem unreflected_l0 (d : Nat) : ∀ (k g n : Nat), g < 2 ^ d → d ≤ 62 → n < 2 ^ 62 → d < k → impl_unreflected.l0 k (g : Int) (n : Int) = some ((n ^^^ M.inv g : Nat) : Int) := by
  induction d with
  | zero =>
    intro k g n hg hd hn hk
    obtain ⟨k, rfl⟩ : ∃ m, k = m + 1 := ⟨k - 1, by omega⟩
    have : g = 0 := by simp at hg; omega
    subst this
    simp only [impl_unreflected.l0]
    rw [if_neg (by omega), M.inv_zero, Nat.xor_zero]
  | succ d ih =>
    intro k g n hg hd hn hk
    obtain ⟨k, rfl⟩ : ∃ m, k = m + 1 := ⟨k - 1, by omega⟩
    have hg2 : g < 2 ^ 62 := Nat.lt_of_lt_of_le hg (Nat.pow_le_pow_right (by decide) hd)
    rw [Nat.pow_succ] at hg
    simp only [impl_unreflected.l0]
    by_cases h0 : g = 0
    · subst h0; rw [if_neg (by omega), M.inv_zero, Nat.xor_zero]
    · rw [if_pos (by omega), tdiv2 (by omega) (by omega), xor_nat (by omega) (by omega), show ((g : Int) / 2) = ((g / 2 : Nat) : Int) by omega]
      rw [ih k (g / 2) (n ^^^ g) (by omega) (by omega) (Nat.xor_lt_two_pow hn hg2) (by omega), Nat.xor_assoc, ← M.inv_eq]
theorem unreflected {g k : Nat} (hg : g < 2 ^ 62) (hk : 62 < k) : impl_unreflected.f k (g : Int) = some (M.inv g : Int) := by
  have := unreflected_l0 62 k g 0 hg (by omega) (by decide) hk
  rw [Nat.zero_xor] at this
  exact this

theorem riState_l0 {r n : Nat} (hr : r ≤ 40) (hn : n < 2 ^ 62) (d : Nat) : ∀ (k i : Nat), i + d = r → d < k →
    spec_riState.l0 k (r : Int) (n : Int) (sb ((M.st r n).take i)) (i : Int) = some (sb (M.st r n)) := by
  have hl := M.st_length r n
  induction d with
  | zero =>
    intro k i hi hk
    obtain ⟨k, rfl⟩ : ∃ m, k = m + 1 := ⟨k - 1, by omega⟩
    simp only [spec_riState.l0]
    rw [if_neg (by omega), List.take_of_length_le (by omega)]
  | succ d ih =>
    intro k i hi hk
    obtain ⟨k, rfl⟩ : ∃ m, k = m + 1 := ⟨k - 1, by omega⟩
    have h := ih k (i + 1) (by omega) (by omega)
    have hg := M.st_get (r := r) (n := n) (k := i) (by omega)
    have hs : (sb ((M.st r n).take i)).size = i := by rw [sb_size, List.length_take]; omega
    have ht : (M.st r n).take (i + 1) = (M.st r n).take i ++ [decide ((n / 2 ^ i + n / 2 ^ (i + 1)) % 2 = 1)] := by
      rw [List.take_add_one, hg]; rfl
    have e1 : sb ((M.st r n).take (i + 1)) = sb ((M.st r n).take i) ++ tx [sg (decide ((n / 2 ^ i + n / 2 ^ (i + 1)) % 2 = 1))] := by
      rw [ht, sb, sb, tx_app, List.map_append]; rfl
    simp only [spec_riState.l0]
    rw [if_pos (by omega), if_pos (by omega), w64 (by omega) (by omega), if_pos (by omega)]
    rw [show ((i : Int) + 1) = ((i + 1 : Nat) : Int) by omega, and_shr (by omega) (by omega), and_shr (by omega) (by omega), hs]
    generalize n / 2 ^ i = u at *
    generalize n / 2 ^ (i + 1) = v at *
    by_cases q : (u + v) % 2 = 1
    · rw [if_neg (by omega), if_pos (by omega)]
      rw [e1] at h
      simp only [q, decide_true, sg, if_true] at h
      exact h
    · rw [if_pos (by omega), if_pos (by omega)]
      rw [e1] at h
      simp only [q, decide_false, sg, Bool.false_eq_true, if_false] at h
      exact h
theorem riState {r n k : Nat} (hr : r ≤ 40) (hn : n < 2 ^ 62) (hk : r < k) : spec_riState.f k (r : Int) (n : Int) = some (sb (M.st r n)) := by
  have := riState_l0 hr hn r k 0 (by omega) hk
  simpa [spec_riState.f, sb, tx] using this
def nsg (b : Bool) : Int := if b then 49 else 48
theorem strOfNums_nsg (bs : List Bool) : strOfNums (bs.map nsg) = sb bs := by
  unfold strOfNums sb tx
  congr 2
  rw [List.map_map]
  apply List.map_congr_left
  intro b _
  cases b <;> rfl
theorem state_l0 {r n : Nat} (hr : r ≤ 40) (hn : n < 2 ^ 62) (d : Nat) : ∀ (k i : Nat), i + d = r → d < k →
    impl_state.l0 k (M.gray n : Int) (((M.st r n).take i).map nsg ++ List.replicate d 0) (r : Int) (i : Int) = some (sb (M.st r n)) := by
  have hl := M.st_length r n
  induction d with
  | zero =>
    intro k i hi hk
    obtain ⟨k, rfl⟩ : ∃ m, k = m + 1 := ⟨k - 1, by omega⟩
    simp only [impl_state.l0]
    rw [if_neg (by omega), List.take_of_length_le (by omega), List.replicate_zero, List.append_nil, strOfNums_nsg]
  | succ d ih =>
    intro k i hi hk
    obtain ⟨k, rfl⟩ : ∃ m, k = m + 1 := ⟨k - 1, by omega⟩
    have h := ih k (i + 1) (by omega) (by omega)
    have hg := M.st_get (r := r) (n := n) (k := i) (by omega)
    have ht : (M.st r n).take (i + 1) = (M.st r n).take i ++ [decide ((n / 2 ^ i + n / 2 ^ (i + 1)) % 2 = 1)] := by
      rw [List.take_add_one, hg]; rfl
    have hlen : (((M.st r n).take i).map nsg).length = i := by rw [List.length_map, List.length_take]; omega
    have hgr : M.gray n / 2 ^ i % 2 = (n / 2 ^ i + n / 2 ^ (i + 1)) % 2 := by
      rw [M.gray_divs, M.gray_mod, M.div_pow_succ']
    have hgl := M.gray_lt (r := 62) hn
    simp only [impl_state.l0]
    rw [if_pos (by omega), if_pos (by omega), if_pos (by rw [List.length_append, hlen, List.length_replicate]; omega)]
    rw [w64 (by omega) (by omega), and_shr (by omega) (by omega), hgr, Int.toNat_natCast]
    rw [show ((i : Int) + 1) = ((i + 1 : Nat) : Int) by omega]
    have e : (((M.st r n).take i).map nsg ++ List.replicate (d + 1) 0).set i ((48 + ((((n / 2 ^ i + n / 2 ^ (i + 1)) % 2 : Nat) : Int)) % 256) % 256) = ((M.st r n).take (i + 1)).map nsg ++ List.replicate d 0 := by
      rw [List.set_append_right _ _ (by omega), hlen, Nat.sub_self, List.replicate_succ, List.set_cons_zero, ht, List.map_append, List.append_assoc]
      congr 1
      simp only [List.map_cons, List.map_nil, List.singleton_append]
      congr 1
      by_cases q : (n / 2 ^ i + n / 2 ^ (i + 1)) % 2 = 1
      · rw [q]; simp [nsg]
      · have : (n / 2 ^ i + n / 2 ^ (i + 1)) % 2 = 0 := by omega
        rw [this]; simp [nsg]
    rw [e]
    exact h
theorem state {r n k : Nat} (hr : r ≤ 40) (hn : n < 2 ^ 62) (hk : r < k) : impl_state.f k (r : Int) (n : Int) = some (sb (M.st r n)) := by
  have h := state_l0 hr hn r k 0 (by omega) hk
  unfold impl_state.f
  rw [if_pos (by omega), Int.toNat_natCast, if_pos (by omega), gray_int (by omega)]
  simp only [Option.bind_some, List.length_replicate]
  simpa using h

/-! states -/
def goodB (l : List UInt8) : Bool := decide (1 ≤ l.length ∧ l.length ≤ 20) && l.all fun c => decide (c = 48 ∨ c = 49)
def isB (c : UInt8) : Bool := decide (c = 48 ∨ c = 49)
theorem goodB_of {l : List UInt8} (h : goodB l = true) : ∃ bs : List Bool, l = bs.map sg ∧ 1 ≤ bs.length ∧ bs.length ≤ 20 := by
  simp only [goodB, Bool.and_eq_true, decide_eq_true_eq, List.all_eq_true] at h
  obtain ⟨⟨h1, h2⟩, h3⟩ := h
  refine ⟨l.map fun c => decide (c = 49), ?_, by simpa using h1, by simpa using h2⟩
  rw [List.map_map]
  conv => lhs; rw [← List.map_id l]
  apply List.map_congr_left
  intro c hc
  rcases h3 c hc with rfl | rfl <;> rfl
theorem good_sb {bs : List Bool} (h1 : 1 ≤ bs.length) (h2 : bs.length ≤ 20) : goodB (bs.map sg) = true := by
  simp only [goodB, Bool.and_eq_true, decide_eq_true_eq, List.all_eq_true, List.length_map]
  refine ⟨⟨h1, h2⟩, fun c hc => ?_⟩
  obtain ⟨b, _, rfl⟩ := List.mem_map.1 hc
  cases b
  · exact .inl rfl
  · exact .inr rfl
theorem u8_48 (c : UInt8) : ((c.toNat : Int) = 48) ↔ c = 48 := by
  constructor
  · intro h; apply UInt8.toNat_inj.1; show c.toNat = 48; omega
  · rintro rfl; rfl
theorem u8_49 (c : UInt8) : ((c.toNat : Int) = 49) ↔ c = 49 := by
  constructor
  · intro h; apply UInt8.toNat_inj.1; show c.toNat = 49; omega
  · rintro rfl; rfl
theorem bt_drop {l r : List UInt8} {i : Nat} {b : UInt8} (h : l.drop i = b :: r) : bt (tx l) (i : Int) = (b.toNat : Int) := by
  rw [bt_tx, List.getD, (getElem?_drop_cons h).1]; rfl
theorem riGood_l0 {l : List UInt8} (hl : l.length ≤ 20) (r : List UInt8) : ∀ (k i : Nat), l.drop i = r → r.length < k →
    spec_riGood.l0 k (tx l) (i : Int) = some (r.all isB) := by
  induction r with
  | nil =>
    intro k i hd hk
    obtain ⟨k, rfl⟩ : ∃ m, k = m + 1 := ⟨k - 1, by omega⟩
    have : l.length ≤ i := List.drop_eq_nil_iff.1 hd
    rw [spec_riGood.l0, tx_size, if_neg (by omega)]; rfl
  | cons b r ih =>
    intro k i hd hk
    obtain ⟨k, rfl⟩ : ∃ m, k = m + 1 := ⟨k - 1, by omega⟩
    obtain ⟨h2, h3, h4⟩ := getElem?_drop_cons hd
    have h := ih k (i + 1) h3 (by simp at hk; omega)
    rw [spec_riGood.l0, tx_size, if_pos (by omega), if_pos (by omega), bt_drop hd, w64 (by omega) (by omega), show ((i : Int) + 1) = ((i + 1 : Nat) : Int) by omega, h]
    by_cases q1 : b = 48
    · rw [if_pos ((u8_48 b).2 q1)]; simp [isB, q1]
    · rw [if_neg (fun z => q1 ((u8_48 b).1 z))]
      by_cases q2 : b = 49
      · rw [if_pos ((u8_49 b).2 q2)]; simp [isB, q2]
      · rw [if_neg (fun z => q2 ((u8_49 b).1 z))]; simp [isB, q1, q2]
theorem riGood {l : List UInt8} {k : Nat} (hk : 20 < k) : spec_riGood.f k (tx l) = some (goodB l) := by
  unfold spec_riGood.f spec_l1In.f goodB
  rw [tx_size]
  by_cases h1 : 1 ≤ l.length
  · rw [if_pos (by omega)]
    by_cases h2 : l.length ≤ 20
    · have := riGood_l0 h2 l k 0 (by simp) (by omega)
      rw [show (0 : Int) = ((0 : Nat) : Int) from rfl, this]
      have h3 : (l.length : Int) ≤ 20 := by omega
      have h4 : l.all isB = l.all (fun c => decide (c = 48 ∨ c = 49)) := rfl
      rw [h4]
      simp only [h1, h2, h3, decide_true, true_and, Bool.true_and, and_self, Option.bind_some, if_true]
    · have h3 : ¬ (l.length : Int) ≤ 20 := by omega
      simp [h2, h3]
  · rw [if_neg (by omega)]
    simp [h1]
theorem dropWhile_nil (p : UInt8 → Bool) : ∀ l : List UInt8, l.dropWhile p = [] ↔ ∀ x ∈ l, p x = true
  | [] => by simp
  | x :: l => by
    rw [List.dropWhile_cons]
    by_cases h : p x = true
    · rw [if_pos h, dropWhile_nil p l]; simp [h]
    · rw [if_neg h]; simp [h]
theorem trim_nil {l cs : List UInt8} : Lib.trimS l cs = [] ↔ ∀ c ∈ l, cs.contains c = true := by
  unfold Lib.trimS Lib.trimLeftS Lib.trimRightS
  rw [dropWhile_nil]
  constructor
  · intro h c hc
    by_cases hc2 : c ∈ (l.reverse.dropWhile (cs.contains ·)).reverse
    · exact h c hc2
    · have hr : c ∈ l.reverse := List.mem_reverse.2 hc
      rw [← List.takeWhile_append_dropWhile (p := (cs.contains ·)) (l := l.reverse)] at hr
      rcases List.mem_append.1 hr with hr | hr
      · have := List.all_takeWhile (p := (cs.contains ·)) (l := l.reverse)
        exact List.all_eq_true.1 this c hr
      · exact absurd (List.mem_reverse.2 hr) hc2
  · intro h c hc
    have : c ∈ l.reverse := (List.dropWhile_sublist _).subset (List.mem_reverse.1 hc)
    exact h c (List.mem_reverse.1 this)
theorem trim_f {l cs : List UInt8} (hl : l.length ≤ 140737488351232) (hc : cs.length ≤ 100) (ha : (cs.all fun b => decide (b.toNat < 128)) = true) : strings_Trim.f (tx l) (tx cs) = some (tx (Lib.trimS l cs)) := by
  unfold strings_Trim.f
  rw [tx_data, tx_data, tx_size, tx_size, if_pos ⟨by omega, by omega, ha⟩]; rfl
theorem nil_beq (l : List UInt8) : (l == ([] : List UInt8)) = l.isEmpty := by cases l <;> rfl
theorem isState {l : List UInt8} (hl : l.length ≤ 140737488351232) : impl_IsState.f (tx l) = some (goodB l) := by
  unfold impl_IsState.f impl_in.f goodB
  rw [tx_size, show (⟨#[48, 49]⟩ : ByteArray) = tx [48, 49] from rfl, trim_f hl (by decide) (by decide)]
  have key : (Lib.trimS l [48, 49]).isEmpty = l.all fun c => decide (c = 48 ∨ c = 49) := by
    rw [Bool.eq_iff_iff, List.isEmpty_iff, trim_nil, List.all_eq_true]
    constructor
    · intro h c hc; have := h c hc; simpa using this
    · intro h c hc; have := h c hc; simpa using this
  by_cases h1 : 1 ≤ l.length
  · rw [if_pos (by omega)]
    by_cases h2 : l.length ≤ 20
    · have h3 : (l.length : Int) ≤ 20 := by omega
      simp only [h3, decide_true, Option.bind_some, if_true, tx_toList, nil_beq, key]
      simp [h1, h2]
    · have h3 : ¬ (l.length : Int) ≤ 20 := by omega
      simp [h2, h3]
  · rw [if_neg (by omega)]
    simp [h1]
/-- what a text is: a state or none -/
theorem stateCases (s : ByteArray) : (∃ bs : List Bool, s = sb bs ∧ 1 ≤ bs.length ∧ bs.length ≤ 20) ∨ (∃ l, s = tx l ∧ goodB l = false) := by
  cases h : goodB s.data.toList with
  | true =>
    obtain ⟨bs, h1, h2⟩ := goodB_of h
    exact .inl ⟨bs, by rw [sb, ← h1]; exact tx_of s, h2⟩
  | false => exact .inr ⟨_, tx_of s, h⟩
theorem riGood_sb {bs : List Bool} {k : Nat} (h1 : 1 ≤ bs.length) (h2 : bs.length ≤ 20) (hk : 20 < k) : spec_riGood.f k (sb bs) = some true := by
  rw [sb, riGood hk, good_sb h1 h2]
theorem isState_sb {bs : List Bool} (h1 : 1 ≤ bs.length) (h2 : bs.length ≤ 20) : impl_IsState.f (sb bs) = some true := by
  rw [sb, isState (by simp; omega), good_sb h1 h2]
theorem drop_cons' {bs : List Bool} {i : Nat} (h : i < bs.length) : ∃ b, bs[i]? = some b ∧ bs.drop i = b :: bs.drop (i + 1) := ⟨bs[i], List.getElem?_eq_getElem h, List.drop_eq_getElem_cons h⟩
theorem num_small {bs : List Bool} (h : bs.length ≤ 40) : M.num bs < 2 ^ 40 := Nat.lt_of_lt_of_le (M.num_lt bs) (Nat.pow_le_pow_right (by decide) h)
theorem val_small {bs : List Bool} (h : bs.length ≤ 40) : M.val bs < 2 ^ 40 := Nat.lt_of_lt_of_le (M.val_lt bs) (Nat.pow_le_pow_right (by decide) h)
theorem riNumber_l0 {bs : List Bool} (hl : bs.length ≤ 40) (j : Nat) : ∀ (k : Nat), j ≤ bs.length → j < k →
    spec_riNumber.l0 k (sb bs) (M.num (bs.drop j) : Int) ((M.num (bs.drop j) % 2 : Nat) : Int) ((j : Int) - 1) = some (M.num bs : Int) := by
  induction j with
  | zero =>
    intro k hj hk
    obtain ⟨k, rfl⟩ : ∃ m, k = m + 1 := ⟨k - 1, by omega⟩
    rw [spec_riNumber.l0, if_neg (by omega)]; simp
  | succ j ih =>
    intro k hj hk
    obtain ⟨k, rfl⟩ : ∃ m, k = m + 1 := ⟨k - 1, by omega⟩
    obtain ⟨b, hb, hd⟩ := drop_cons' (bs := bs) (i := j) (by omega)
    have hs := num_small (bs := bs.drop (j + 1)) (by simp; omega)
    have h := ih k (by omega) (by omega)
    rw [show (((j + 1 : Nat) : Int) - 1) = (j : Int) by omega, spec_riNumber.l0, if_pos (by omega), if_pos (by omega), sb_size, if_pos (by omega), bt_sb hb, w64 (x := (j : Int) - 1) (by omega) (by omega)]
    rw [hd, M.num] at h
    generalize M.num (bs.drop (j + 1)) = n at *
    cases b
    · simp only [M.b2, Bool.false_eq_true, if_false, Nat.zero_add] at h ⊢
      rw [if_neg (by decide), w64 (x := 2 * (n : Int)) (by omega) (by omega), w64 (by omega) (by omega)]
      rw [show (2 * (n : Int) + ((n % 2 : Nat) : Int)) = ((2 * n + n % 2 : Nat) : Int) by omega]
      rw [show (2 * n + n % 2) % 2 = n % 2 by omega] at h
      exact h
    · simp only [M.b2, if_true] at h ⊢
      rw [w64 (x := 2 * (n : Int)) (by omega) (by omega), w64 (x := 1 - ((n % 2 : Nat) : Int)) (by omega) (by omega), w64 (by omega) (by omega)]
      rw [show (2 * (n : Int) + (1 - ((n % 2 : Nat) : Int))) = ((2 * n + (1 + n) % 2 : Nat) : Int) by omega, show (1 - ((n % 2 : Nat) : Int)) = (((2 * n + (1 + n) % 2) % 2 : Nat) : Int) by omega]
      exact h
theorem riNumber {bs : List Bool} {k : Nat} (hl : bs.length ≤ 40) (hk : 40 < k) : spec_riNumber.f k (sb bs) = some (M.num bs : Int) := by
  unfold spec_riNumber.f
  rw [sb_size, w64 (by omega) (by omega)]
  have := riNumber_l0 hl bs.length k (Nat.le_refl _) (by omega)
  rw [List.drop_of_length_le (Nat.le_refl _)] at this
  exact this
theorem bits_l0 {bs : List Bool} (hl : bs.length ≤ 40) (j : Nat) : ∀ (k : Nat), j ≤ bs.length → j < k →
    impl_bits.l0 k (sb bs) (M.val (bs.drop j) : Int) ((j : Int) - 1) = some (M.val bs : Int) := by
  induction j with
  | zero =>
    intro k hj hk
    obtain ⟨k, rfl⟩ : ∃ m, k = m + 1 := ⟨k - 1, by omega⟩
    rw [impl_bits.l0, if_neg (by omega)]; simp
  | succ j ih =>
    intro k hj hk
    obtain ⟨k, rfl⟩ : ∃ m, k = m + 1 := ⟨k - 1, by omega⟩
    obtain ⟨b, hb, hd⟩ := drop_cons' (bs := bs) (i := j) (by omega)
    have hs := val_small (bs := bs.drop (j + 1)) (by simp; omega)
    have h := ih k (by omega) (by omega)
    rw [show (((j + 1 : Nat) : Int) - 1) = (j : Int) by omega, impl_bits.l0, if_pos (by omega), if_pos (by omega), sb_size, if_pos (by omega), bt_sb hb, w64 (x := (j : Int) - 1) (by omega) (by omega)]
    rw [hd, M.val] at h
    generalize M.val (bs.drop (j + 1)) = n at *
    cases b
    · simp only [M.b2, Bool.false_eq_true, if_false, Nat.zero_add] at h ⊢
      rw [w64 (x := 2 * (n : Int)) (by omega) (by omega), w64 (by omega) (by omega)]
      rw [show (2 * (n : Int) + (48 - 48) % 256) = ((2 * n : Nat) : Int) by omega]
      exact h
    · simp only [M.b2, if_true] at h ⊢
      rw [w64 (x := 2 * (n : Int)) (by omega) (by omega), w64 (by omega) (by omega)]
      rw [show (2 * (n : Int) + (49 - 48) % 256) = ((1 + 2 * n : Nat) : Int) by omega]
      exact h
theorem number {bs : List Bool} {k : Nat} (hl : bs.length ≤ 40) (hk : 62 < k) : impl_number.f k (sb bs) = some (M.num bs : Int) := by
  unfold impl_number.f impl_bits.f
  have hv := val_small hl
  have := bits_l0 hl bs.length k (Nat.le_refl _) (by omega)
  rw [List.drop_of_length_le (Nat.le_refl _)] at this
  rw [sb_size, w64 (by omega) (by omega), show (0 : Int) = (M.val [] : Int) from rfl, this]
  simp only [Option.bind_some]
  rw [unreflected (by omega) hk, M.inv_val]; rfl

theorem riOn_l0 {l : List UInt8} (hl : l.length ≤ 2000000) (r : List UInt8) : ∀ (k i n : Nat), l.drop i = r → n ≤ i → r.length < k →
    spec_riOn.l0 k (tx l) (n : Int) (i : Int) = some ((n + r.count 49 : Nat) : Int) := by
  induction r with
  | nil =>
    intro k i n hd hn hk
    obtain ⟨k, rfl⟩ : ∃ m, k = m + 1 := ⟨k - 1, by omega⟩
    have : l.length ≤ i := List.drop_eq_nil_iff.1 hd
    rw [spec_riOn.l0, tx_size, if_neg (by omega)]; simp
  | cons b r ih =>
    intro k i n hd hn hk
    obtain ⟨k, rfl⟩ : ∃ m, k = m + 1 := ⟨k - 1, by omega⟩
    obtain ⟨h2, h3, h4⟩ := getElem?_drop_cons hd
    rw [spec_riOn.l0, tx_size, if_pos (by omega), if_pos (by omega), bt_drop hd, w64 (x := (i : Int) + 1) (by omega) (by omega), w64 (x := (n : Int) + 1) (by omega) (by omega), show ((i : Int) + 1) = ((i + 1 : Nat) : Int) by omega, show ((n : Int) + 1) = ((n + 1 : Nat) : Int) by omega]
    by_cases q : b = 49
    · rw [if_pos ((u8_49 b).2 q), ih k (i + 1) (n + 1) h3 (by omega) (by simp at hk; omega), q, List.count_cons_self]
      congr 2; omega
    · rw [if_neg (fun z => q ((u8_49 b).1 z)), ih k (i + 1) n h3 (by omega) (by simp at hk; omega), List.count_cons_of_ne q]
theorem riOn {l : List UInt8} {k : Nat} (hl : l.length ≤ 2000000) (hk : l.length < k) : spec_riOn.f k (tx l) = some ((l.count 49 : Nat) : Int) := by
  have := riOn_l0 hl l k 0 0 (by simp) (by omega) hk
  rw [Nat.zero_add] at this
  exact this

end Go.Proofs.YtahdlpadcbigaaaDoor.Pure
