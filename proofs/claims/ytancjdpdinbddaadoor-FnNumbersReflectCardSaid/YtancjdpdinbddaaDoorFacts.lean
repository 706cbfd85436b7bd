/- What the printed functions of reflected numbers give. -/
import Derived.Test.YtancjdpdinbddaaDoorAE
import Derived.Test.YtancjdpdinbddaaDoorAx1
import Derived.Test.YtancjdpdinbddaaDoorAx2
import Derived.Test.YtancjdpdinbddaaDoorAx3
import Derived.Test.YtancjdpdinbddaaDoorAx4
import Derived.Test.YtancjdpdinbddaaDoorAx5
import Derived.Test.YtancjdpdinbddaaDoorNum
set_option linter.unusedVariables false
set_option linter.unusedSimpArgs false
namespace Go.Proofs.YtancjdpdinbddaaDoor.Pure
open Go.RowKit Go.Proofs.YtancjdpdinbddaaDoor.A Go.Proofs.YtancjdpdinbddaaDoorW.PrintWords Go.Proofs.YtancjdpdinbddaaDoorW.PrintLast Go.Proofs.YtancjdpdinbddaaDoorW.PrintMore

theorem unreflected_l0 (d : Nat) : ∀ (k g n : Nat), g < 2 ^ d → d ≤ 62 → n < 2 ^ 62 → d < k → impl_unreflected.l0 k (g : Int) (n : Int) = some ((n ^^^ M.inv g : Nat) : Int) := by
  induction d with
  | zero =>
    intro k g n hg hd hn hk
    obtain ⟨k, rfl⟩ : ∃ m, k = m + 1 := ⟨k - 1, by omega⟩
    have : g = 0 := by simp at hg; omega
    subst this
    simp only [impl_unreflected.l0]
    rw [if_neg (by omega), M.inv_zero, Nat.xor_zero]
  | succ d ih =>
    intro k g n hg hd hn hk
    obtain ⟨k, rfl⟩ : ∃ m, k = m + 1 := ⟨k - 1, by omega⟩
    have hg2 : g < 2 ^ 62 := Nat.lt_of_lt_of_le hg (Nat.pow_le_pow_right (by decide) hd)
    rw [Nat.pow_succ] at hg
    simp only [impl_unreflected.l0]
    by_cases h0 : g = 0
    · subst h0; rw [if_neg (by omega), M.inv_zero, Nat.xor_zero]
    · rw [if_pos (by omega), tdiv2 (by omega) (by omega), xor_nat (by omega) (by omega), show ((g : Int) / 2) = ((g / 2 : Nat) : Int) by omega]
      rw [ih k (g / 2) (n ^^^ g) (by omega) (by omega) (Nat.xor_lt_two_pow hn hg2) (by omega), Nat.xor_assoc, ← M.inv_eq]
theorem unreflected {g k : Nat} (hg : g < 2 ^ 62) (hk : 62 < k) : impl_unreflected.f k (g : Int) = some (M.inv g : Int) := by
  have := unreflected_l0 62 k g 0 hg (by omega) (by decide) hk
  rw [Nat.zero_xor] at this
  exact this

theorem nuBack_l0 (d : Nat) : ∀ (k g n : Nat), g < 2 ^ d → d ≤ 62 → n < 2 ^ 62 → d < k → spec_nuBack.l0 k (g : Int) (n : Int) = some ((n ^^^ M.inv g : Nat) : Int) := by
  induction d with
  | zero =>
    intro k g n hg hd hn hk
    obtain ⟨k, rfl⟩ : ∃ m, k = m + 1 := ⟨k - 1, by omega⟩
    have : g = 0 := by simp at hg; omega
    subst this
    simp only [spec_nuBack.l0]
    rw [if_neg (by omega), M.inv_zero, Nat.xor_zero]
  | succ d ih =>
    intro k g n hg hd hn hk
    obtain ⟨k, rfl⟩ : ∃ m, k = m + 1 := ⟨k - 1, by omega⟩
    have hg2 : g < 2 ^ 62 := Nat.lt_of_lt_of_le hg (Nat.pow_le_pow_right (by decide) hd)
    rw [Nat.pow_succ] at hg
    simp only [spec_nuBack.l0]
    by_cases h0 : g = 0
    · subst h0; rw [if_neg (by omega), M.inv_zero, Nat.xor_zero]
    · rw [if_pos (by omega), xor_nat (by omega) (by omega), show ((g : Int) / 2) = ((g / 2 : Nat) : Int) by omega]
      rw [ih k (g / 2) (n ^^^ g) (by omega) (by omega) (Nat.xor_lt_two_pow hn hg2) (by omega), Nat.xor_assoc, ← M.inv_eq]
theorem nuBack {g k : Nat} (hg : g < 2 ^ 62) (hk : 62 < k) : spec_nuBack.f k (g : Int) = some (M.inv g : Int) := by
  have := nuBack_l0 62 k g 0 hg (by omega) (by decide) hk
  rw [Nat.zero_xor] at this
  exact this

theorem zeros_l0 (d : Nat) : ∀ (k n x : Nat), 0 < n → n < 2 ^ d → d ≤ 62 → x ≤ 1000 - d → d < k → impl_zeros.l0 k (n : Int) (x : Int) = some ((x + M.ctz n : Nat) : Int) := by
  induction d with
  | zero => intro k n x h0 h1; simp at h1; omega
  | succ d ih =>
    intro k n x h0 h1 hd hx hk
    obtain ⟨k, rfl⟩ : ∃ m, k = m + 1 := ⟨k - 1, by omega⟩
    have hn2 : n < 2 ^ 62 := Nat.lt_of_lt_of_le h1 (Nat.pow_le_pow_right (by decide) hd)
    rw [Nat.pow_succ] at h1
    rw [impl_zeros.l0, Int.tmod_eq_emod_of_nonneg (by omega)]
    by_cases q : n % 2 = 0
    · rw [if_pos (by omega), tdiv2 (by omega) (by omega), w64 (x := (x : Int) + 1) (by omega) (by omega), show ((n : Int) / 2) = ((n / 2 : Nat) : Int) by omega, show ((x : Int) + 1) = ((x + 1 : Nat) : Int) by omega, ih k (n / 2) (x + 1) (by omega) (by omega) (by omega) (by omega) (by omega), M.ctz_even h0 q]
      congr 2; omega
    · rw [if_neg (by omega), M.ctz_odd (by omega)]; rfl
theorem zeros {n k : Nat} (h0 : 0 < n) (h1 : n < 2 ^ 62) (hk : 62 < k) : impl_zeros.f k (n : Int) = some (M.ctz n : Int) := by
  have := zeros_l0 62 k n 0 h0 h1 (by omega) (by omega) hk
  rw [Nat.zero_add] at this
  exact this

theorem digit_both (a : Int) (ha : 0 ≤ a) (hb : a ≤ 1000000000000) (d : Nat) : ∀ (k c : Nat), d + c = 60 → a / 2 ^ c < 2 ^ d → d < k →
    ∃ r : Int, spec_nuChanged.l0 k a c = some r ∧ impl_zeros.l0 k (a / 2 ^ c + 1) c = some r := by
  induction d with
  | zero =>
    intro k c hd h1 hk
    obtain ⟨k, rfl⟩ : ∃ m, k = m + 1 := ⟨k - 1, by omega⟩
    have h0 : 0 ≤ a / 2 ^ c := Int.ediv_nonneg ha (Int.pow_nonneg (by decide))
    have hz : a / 2 ^ c = 0 := by simp at h1; omega
    refine ⟨c, ?_, ?_⟩
    · simp only [spec_nuChanged.l0]; rw [if_pos (by omega), shr_eq (by omega), Int.toNat_natCast, hz, and1 (by decide) (by decide), if_neg (by decide)]
    · simp only [impl_zeros.l0]; rw [hz, if_neg (by decide)]
  | succ d ih =>
    intro k c hd h1 hk
    obtain ⟨k, rfl⟩ : ∃ m, k = m + 1 := ⟨k - 1, by omega⟩
    have h0 : 0 ≤ a / 2 ^ c := Int.ediv_nonneg ha (Int.pow_nonneg (by decide))
    have hle : a / 2 ^ c ≤ a := Int.ediv_le_self _ ha
    have e : a / 2 ^ (c + 1) = a / 2 ^ c / 2 := by rw [Int.pow_succ, Int.ediv_ediv_of_nonneg (Int.pow_nonneg (by decide))]
    rw [Int.pow_succ] at h1
    by_cases hodd : a / 2 ^ c % 2 = 1
    · obtain ⟨r, hp, hq⟩ := ih k (c + 1) (by omega) (by rw [e]; omega) (by omega)
      refine ⟨r, ?_, ?_⟩
      · simp only [spec_nuChanged.l0]; rw [if_pos (by omega), shr_eq (by omega), Int.toNat_natCast, and1 h0 (by omega), if_pos hodd, w64 (by omega) (by omega)]; exact hp
      · simp only [impl_zeros.l0]
        rw [Int.tmod_eq_emod_of_nonneg (by omega), if_pos (by omega), tdiv2 (by omega) (by omega), w64 (by omega) (by omega)]
        rw [e] at hq
        have : (a / 2 ^ c + 1) / 2 = a / 2 ^ c / 2 + 1 := by omega
        rw [this]; exact hq
    · refine ⟨c, ?_, ?_⟩
      · simp only [spec_nuChanged.l0]; rw [if_pos (by omega), shr_eq (by omega), Int.toNat_natCast, and1 h0 (by omega), if_neg hodd]
      · simp only [impl_zeros.l0]
        rw [Int.tmod_eq_emod_of_nonneg (by omega), if_neg (by omega)]

def nsg (b : Bool) : Int := if b then 49 else 48
theorem strOfNums_nsg (bs : List Bool) : strOfNums (bs.map nsg) = sb bs := by
  unfold strOfNums sb tx
  congr 2
  rw [List.map_map]
  apply List.map_congr_left
  intro b _
  cases b <;> rfl
theorem state_l0 {r n : Nat} (hr : r ≤ 40) (hn : n < 2 ^ 62) (d : Nat) : ∀ (k i : Nat), i + d = r → d < k →
    impl_state.l0 k (M.gray n : Int) (((M.st r n).take i).map nsg ++ List.replicate d 0) (r : Int) (i : Int) = some (sb (M.st r n)) := by
  have hl := M.st_length r n
  induction d with
  | zero =>
    intro k i hi hk
    obtain ⟨k, rfl⟩ : ∃ m, k = m + 1 := ⟨k - 1, by omega⟩
    simp only [impl_state.l0]
    rw [if_neg (by omega), List.take_of_length_le (by omega), List.replicate_zero, List.append_nil, strOfNums_nsg]
  | succ d ih =>
    intro k i hi hk
    obtain ⟨k, rfl⟩ : ∃ m, k = m + 1 := ⟨k - 1, by omega⟩
    have h := ih k (i + 1) (by omega) (by omega)
    have hg := M.st_get (r := r) (n := n) (k := i) (by omega)
    have ht : (M.st r n).take (i + 1) = (M.st r n).take i ++ [decide ((n / 2 ^ i + n / 2 ^ (i + 1)) % 2 = 1)] := by
      rw [List.take_add_one, hg]; rfl
    have hlen : (((M.st r n).take i).map nsg).length = i := by rw [List.length_map, List.length_take]; omega
    have hgr : M.gray n / 2 ^ i % 2 = (n / 2 ^ i + n / 2 ^ (i + 1)) % 2 := by
      rw [M.gray_divs, M.gray_mod, M.div_pow_succ']
    have hgl := M.gray_lt (r := 62) hn
    simp only [impl_state.l0]
    rw [if_pos (by omega), if_pos (by omega), if_pos (by rw [List.length_append, hlen, List.length_replicate]; omega)]
    rw [w64 (by omega) (by omega), and_shr (by omega) (by omega), hgr, Int.toNat_natCast]
    rw [show ((i : Int) + 1) = ((i + 1 : Nat) : Int) by omega]
    have e : (((M.st r n).take i).map nsg ++ List.replicate (d + 1) 0).set i ((48 + ((((n / 2 ^ i + n / 2 ^ (i + 1)) % 2 : Nat) : Int)) % 256) % 256) = ((M.st r n).take (i + 1)).map nsg ++ List.replicate d 0 := by
      rw [List.set_append_right _ _ (by omega), hlen, Nat.sub_self, List.replicate_succ, List.set_cons_zero, ht, List.map_append, List.append_assoc]
      congr 1
      simp only [List.map_cons, List.map_nil, List.singleton_append]
      congr 1
      by_cases q : (n / 2 ^ i + n / 2 ^ (i + 1)) % 2 = 1
      · rw [q]; simp [nsg]
      · have : (n / 2 ^ i + n / 2 ^ (i + 1)) % 2 = 0 := by omega
        rw [this]; simp [nsg]
    rw [e]
    exact h
theorem state {r n k : Nat} (hr : r ≤ 40) (hn : n < 2 ^ 62) (hk : r < k) : impl_state.f k (r : Int) (n : Int) = some (sb (M.st r n)) := by
  have h := state_l0 hr hn r k 0 (by omega) hk
  unfold impl_state.f
  rw [if_pos (by omega), Int.toNat_natCast, if_pos (by omega), gray_int (by omega)]
  simp only [Option.bind_some, List.length_replicate]
  simpa using h

theorem sb_append (a b : List Bool) : sb a ++ sb b = sb (a ++ b) := by rw [sb, sb, sb, tx_app, List.map_append]
theorem bytesOf_sb (bs : List Bool) : bytesOf (sb bs) = bs.map nsg := by
  unfold bytesOf
  rw [show (sb bs).data.toList = bs.map sg from tx_data _, List.map_map]
  apply List.map_congr_left
  intro b _
  cases b <;> rfl
theorem l1Num_bit {k b : Nat} (hb : b < 2) (hk : 0 < k) : spec_l1Num.f k (b : Int) = some (sb [decide (b = 1)]) := by
  obtain ⟨k, rfl⟩ : ∃ m, k = m + 1 := ⟨k - 1, by omega⟩
  rw [spec_l1Num.f, if_pos (by omega), ← strOfNums_nsg, w64 (by omega) (by omega)]
  rcases (by omega : b = 0 ∨ b = 1) with rfl | rfl <;> simp [nsg]
theorem refText_l0 {r n : Nat} (hr : r ≤ 40) (hn : n < 2 ^ 62) : ∀ (i k : Nat), i ≤ r → i + 1 < k →
    spec_ReflectedText.l0 k (n : Int) (sb ((M.st r n).drop i).reverse) ((i : Int) - 1) = some (sb (M.st r n).reverse, true)
  | 0, k, _, hk => by
    obtain ⟨k, rfl⟩ : ∃ m, k = m + 1 := ⟨k - 1, by omega⟩
    rw [spec_ReflectedText.l0, if_neg (by omega)]; rfl
  | i + 1, k, hi, hk => by
    obtain ⟨k, rfl⟩ : ∃ m, k = m + 1 := ⟨k - 1, by omega⟩
    have hl := M.st_length r n
    have hg := M.st_get (r := r) (n := n) (k := i) (by omega)
    have hgl := M.gray_lt (r := 62) hn
    have hgr : M.gray n / 2 ^ i % 2 = (n / 2 ^ i + n / 2 ^ (i + 1)) % 2 := by
      rw [M.gray_divs, M.gray_mod, M.div_pow_succ']
    obtain ⟨x, t, ht⟩ := drop_cons (l := M.st r n) (i := i) (by omega)
    obtain ⟨h2, h3, h4⟩ := getElem?_drop_cons ht
    rw [hg] at h2
    have hx := Option.some.inj h2
    have h := refText_l0 hr hn i k (by omega) (by omega)
    rw [ht, List.reverse_cons, ← sb_append, ← h3, ← hx] at h
    have hs : (sb ((M.st r n).drop (i + 1)).reverse).size ≤ 40 := by rw [sb_size, List.length_reverse, List.length_drop]; omega
    rw [spec_ReflectedText.l0, show (((i + 1 : Nat) : Int) - 1) = (i : Int) by omega, if_pos (by omega)]
    simp only [spec_nuOf.f, Option.bind_some]
    rw [if_pos (by omega), gray_int' (by omega), and_shr (by omega) (by omega), hgr, l1Num_bit (Nat.mod_lt _ (by decide)) (by omega)]
    simp only [Option.bind_some]
    rw [if_pos (by rw [sb_size [decide _]]; simp only [List.length_cons, List.length_nil]; omega), w64 (by omega) (by omega)]
    exact h

def isB (c : UInt8) : Bool := decide (c = 48 ∨ c = 49)
theorem u8_48 (c : UInt8) : ((c.toNat : Int) = 48) ↔ c = 48 := by
  constructor
  · intro h; apply UInt8.toNat_inj.1; show c.toNat = 48; omega
  · rintro rfl; rfl
theorem u8_49 (c : UInt8) : ((c.toNat : Int) = 49) ↔ c = 49 := by
  constructor
  · intro h; apply UInt8.toNat_inj.1; show c.toNat = 49; omega
  · rintro rfl; rfl
theorem bt_drop {l r : List UInt8} {i : Nat} {b : UInt8} (h : l.drop i = b :: r) : bt (tx l) (i : Int) = (b.toNat : Int) := by
  rw [bt_tx, List.getD, (getElem?_drop_cons h).1]; rfl
theorem drop_cons' {bs : List Bool} {i : Nat} (h : i < bs.length) : ∃ b, bs[i]? = some b ∧ bs.drop i = b :: bs.drop (i + 1) := ⟨bs[i], List.getElem?_eq_getElem h, List.drop_eq_getElem_cons h⟩

theorem dropWhile_nil (p : UInt8 → Bool) : ∀ l : List UInt8, l.dropWhile p = [] ↔ ∀ x ∈ l, p x = true
  | [] => by simp
  | x :: l => by
    rw [List.dropWhile_cons]
    by_cases h : p x = true
    · rw [if_pos h, dropWhile_nil p l]; simp [h]
    · rw [if_neg h]; simp [h]
theorem trim_nil {l cs : List UInt8} : Lib.trimS l cs = [] ↔ ∀ c ∈ l, cs.contains c = true := by
  unfold Lib.trimS Lib.trimLeftS Lib.trimRightS
  rw [dropWhile_nil]
  constructor
  · intro h c hc
    by_cases hc2 : c ∈ (l.reverse.dropWhile (cs.contains ·)).reverse
    · exact h c hc2
    · have hr : c ∈ l.reverse := List.mem_reverse.2 hc
      rw [← List.takeWhile_append_dropWhile (p := (cs.contains ·)) (l := l.reverse)] at hr
      rcases List.mem_append.1 hr with hr | hr
      · have := List.all_takeWhile (p := (cs.contains ·)) (l := l.reverse)
        exact List.all_eq_true.1 this c hr
      · exact absurd (List.mem_reverse.2 hr) hc2
  · intro h c hc
    have : c ∈ l.reverse := (List.dropWhile_sublist _).subset (List.mem_reverse.1 hc)
    exact h c (List.mem_reverse.1 this)
theorem trim_f {l cs : List UInt8} (hl : l.length ≤ 140737488351232) (hc : cs.length ≤ 100) (ha : (cs.all fun b => decide (b.toNat < 128)) = true) : strings_Trim.f (tx l) (tx cs) = some (tx (Lib.trimS l cs)) := by
  unfold strings_Trim.f
  rw [tx_data, tx_data, tx_size, tx_size, if_pos ⟨by omega, by omega, ha⟩]; rfl
theorem nil_beq (l : List UInt8) : (l == ([] : List UInt8)) = l.isEmpty := by cases l <;> rfl

def ev : Nat → List Bool → Nat
  | g, [] => g
  | g, b :: r => ev (2 * g + M.b2 b) r
theorem ev_lt (r : List Bool) : ∀ (g i : Nat), g < 2 ^ i → ev g r < 2 ^ (i + r.length) := by
  induction r with
  | nil => intro g i h; exact h
  | cons b r ih =>
    intro g i h
    have hb := M.b2_le b
    have := ih (2 * g + M.b2 b) (i + 1) (by rw [Nat.pow_succ]; omega)
    rw [ev, List.length_cons, show i + (r.length + 1) = i + 1 + r.length by omega]; exact this
theorem digit (b : Bool) : (((if b then 49 else 48 : Int) - 48) % 256) = (M.b2 b : Int) := by cases b <;> rfl
theorem sb_byte2 {bs : List Bool} {i : Nat} (h : i < (sb bs).size) : ((sb bs)[i]'h).toNat = 48 ∨ ((sb bs)[i]'h).toNat = 49 := by
  have h' : i < bs.length := by rwa [sb_size] at h
  obtain ⟨b, hb, hd⟩ := drop_cons' h'
  have e := bt_at (sb bs) (i : Int) (by simpa using h)
  rw [bt_sb hb] at e
  simp only [Int.toNat_natCast] at e
  cases b
  · simp at e; omega
  · simp at e; omega
theorem specRank_l0 {bs : List Bool} (hl : bs.length ≤ 40) (r : List Bool) : ∀ (k i g : Nat), bs.drop i = r → i ≤ bs.length → g < 2 ^ i → r.length + 65 < k →
    spec_RankOfText.l0 k (sb bs) (g : Int) i = some ((M.inv (ev g r) : Int), true) := by
  induction r with
  | nil =>
    intro k i g hd hi hg hk
    obtain ⟨k, rfl⟩ : ∃ m, k = m + 1 := ⟨k - 1, by omega⟩
    have : bs.length ≤ i := List.drop_eq_nil_iff.1 hd
    have hp : 2 ^ i ≤ 2 ^ 40 := Nat.pow_le_pow_right (by decide) (by omega)
    rw [spec_RankOfText.l0, dif_neg (by rw [sb_size]; omega), nuBack (by omega) (by omega)]; rfl
  | cons b r ih =>
    intro k i g hd hi hg hk
    obtain ⟨k, rfl⟩ : ∃ m, k = m + 1 := ⟨k - 1, by omega⟩
    obtain ⟨h2, h3, h4⟩ := getElem?_drop_cons hd
    simp only [List.length_cons] at hk
    have hp : 2 ^ i ≤ 2 ^ 40 := Nat.pow_le_pow_right (by decide) (by omega)
    have hb := M.b2_le b
    have hs : i < (sb bs).size := by rw [sb_size]; omega
    rw [spec_RankOfText.l0, dif_pos hs, if_pos (sb_byte2 hs), bt_sb h2, digit, w64 (x := 2 * (g : Int)) (by omega) (by omega), w64 (by omega) (by omega), show (2 * (g : Int) + (M.b2 b : Int)) = ((2 * g + M.b2 b : Nat) : Int) by omega, ev]
    exact ih k (i + 1) _ h3 (by omega) (by rw [Nat.pow_succ]; omega) (by omega)
theorem implRank_l0 {bs : List Bool} (hl : bs.length ≤ 40) (r : List Bool) : ∀ (k i g : Nat), bs.drop i = r → i ≤ bs.length → g < 2 ^ i → r.length + 65 < k →
    impl_RankOfText.l0 k (sb bs) (g : Int) (bs.length : Int) (i : Int) = some ((M.inv (ev g r) : Int), true) := by
  induction r with
  | nil =>
    intro k i g hd hi hg hk
    obtain ⟨k, rfl⟩ : ∃ m, k = m + 1 := ⟨k - 1, by omega⟩
    have : bs.length ≤ i := List.drop_eq_nil_iff.1 hd
    have hp : 2 ^ i ≤ 2 ^ 40 := Nat.pow_le_pow_right (by decide) (by omega)
    rw [impl_RankOfText.l0, if_neg (by omega), unreflected (by omega) (by omega)]; rfl
  | cons b r ih =>
    intro k i g hd hi hg hk
    obtain ⟨k, rfl⟩ : ∃ m, k = m + 1 := ⟨k - 1, by omega⟩
    obtain ⟨h2, h3, h4⟩ := getElem?_drop_cons hd
    simp only [List.length_cons] at hk
    have hp : 2 ^ i ≤ 2 ^ 40 := Nat.pow_le_pow_right (by decide) (by omega)
    have hb := M.b2_le b
    rw [impl_RankOfText.l0, if_pos (by omega), if_pos (by omega), sb_size, if_pos (by omega), bt_sb h2, digit, w64 (x := 2 * (g : Int)) (by omega) (by omega), w64 (x := 2 * (g : Int) + (M.b2 b : Int)) (by omega) (by omega), w64 (x := (i : Int) + 1) (by omega) (by omega), show (2 * (g : Int) + (M.b2 b : Int)) = ((2 * g + M.b2 b : Nat) : Int) by omega, show ((i : Int) + 1) = ((i + 1 : Nat) : Int) by omega, ev]
    exact ih k (i + 1) _ h3 (by omega) (by rw [Nat.pow_succ]; omega) (by omega)
/-- a text with another sign falls, at the first of them -/
theorem specRank_bad {l : List UInt8} (hl : l.length ≤ 40) (r : List UInt8) : ∀ (k i : Nat) (g : Int), l.drop i = r → r.all isB = false → r.length < k →
    spec_RankOfText.l0 k (tx l) g i = some (0, false) := by
  induction r with
  | nil => intro k i g hd ha; cases ha
  | cons b r ih =>
    intro k i g hd ha hk
    obtain ⟨k, rfl⟩ : ∃ m, k = m + 1 := ⟨k - 1, by omega⟩
    obtain ⟨h2, h3, h4⟩ := getElem?_drop_cons hd
    simp only [List.length_cons] at hk
    have hs : i < (tx l).size := by rw [tx_size]; omega
    have e := bt_at (tx l) (i : Int) (by simpa using hs)
    rw [bt_drop hd] at e
    simp only [Int.toNat_natCast] at e
    have e' : ((tx l)[i]'hs).toNat = b.toNat := by omega
    rw [spec_RankOfText.l0, dif_pos hs, e']
    by_cases q : b.toNat = 48 ∨ b.toNat = 49
    · rw [if_pos q]
      refine ih k (i + 1) _ h3 ?_ (by omega)
      have : isB b = true := by
        unfold isB
        rw [decide_eq_true_eq]
        rcases q with q | q
        · exact .inl ((u8_48 b).1 (by omega))
        · exact .inr ((u8_49 b).1 (by omega))
      rw [List.all_cons, this, Bool.true_and] at ha
      exact ha
    · rw [if_neg q]
theorem all_sg {l : List UInt8} (h : l.all isB = true) : ∃ bs : List Bool, l = bs.map sg := by
  refine ⟨l.map fun c => decide (c = 49), ?_⟩
  rw [List.map_map]
  conv => lhs; rw [← List.map_id l]
  apply List.map_congr_left
  intro c hc
  have := List.all_eq_true.1 h c hc
  unfold isB at this
  rw [decide_eq_true_eq] at this
  rcases this with rfl | rfl <;> rfl

/-! what the functions of reflected numbers give -/
theorem in_decN (n a b : Int) : spec_l1In.f n a b = some (decide (a ≤ n ∧ n ≤ b)) := by
  unfold spec_l1In.f
  by_cases h : n ≥ a
  · rw [if_pos h]; have h' : a ≤ n := h; simp [h']
  · rw [if_neg h]; have h' : ¬ a ≤ n := h; simp [h']
theorem in_valN (n a b : Int) : impl_in.f n a b = some (decide (a ≤ n ∧ n ≤ b)) := by
  unfold impl_in.f
  by_cases h : n ≥ a
  · rw [if_pos h]; have h' : a ≤ n := h; simp [h']
  · rw [if_neg h]; have h' : ¬ a ≤ n := h; simp [h']
theorem isR (a : Int) : impl_isReflected.f a = some (decide (0 ≤ a ∧ a ≤ 1000000000000)) := by
  unfold impl_isReflected.f
  rw [in_valN]; rfl
theorem nuIs (a : Int) : spec_nuIs.f a = some (decide (0 ≤ a ∧ a ≤ 1000000000000)) := by
  unfold spec_nuIs.f
  rw [in_decN]; rfl
theorem isR_yes {n : Nat} (h : n ≤ 1000000000000) : impl_isReflected.f (n : Int) = some true := by rw [isR, decide_eq_true (by omega)]
theorem nuIs_yes {n : Nat} (h : n ≤ 1000000000000) : spec_nuIs.f (n : Int) = some true := by rw [nuIs, decide_eq_true (by omega)]
theorem isR_no {a : Int} (h : ¬ (0 ≤ a ∧ a ≤ 1000000000000)) : impl_isReflected.f a = some false := by rw [isR, decide_eq_false h]
theorem nuIs_no {a : Int} (h : ¬ (0 ≤ a ∧ a ≤ 1000000000000)) : spec_nuIs.f a = some false := by rw [nuIs, decide_eq_false h]
theorem refOf_yes {n : Nat} (h : n ≤ 1000000000000) : impl_ReflectedOf.f (n : Int) = some ((M.gray n : Int), true) ∧ spec_ReflectedOf.f (n : Int) = some ((M.gray n : Int), true) := by
  unfold impl_ReflectedOf.f spec_ReflectedOf.f spec_nuOf.f
  rw [isR_yes h, nuIs_yes h, gray_int (by omega), gray_int' (by omega)]
  exact ⟨rfl, rfl⟩
theorem refOf_no {a : Int} (h : ¬ (0 ≤ a ∧ a ≤ 1000000000000)) : impl_ReflectedOf.f a = some (0, false) ∧ spec_ReflectedOf.f a = some (0, false) := by
  unfold impl_ReflectedOf.f spec_ReflectedOf.f
  rw [isR_no h, nuIs_no h]
  exact ⟨rfl, rfl⟩
theorem numOf_yes {n k : Nat} (h : n ≤ 1000000000000) (hk : 62 < k) : impl_NumberOfReflected.f k (n : Int) = some ((M.inv n : Int), true) ∧ spec_NumberOfReflected.f k (n : Int) = some ((M.inv n : Int), true) := by
  unfold impl_NumberOfReflected.f spec_NumberOfReflected.f
  rw [isR_yes h, nuIs_yes h, unreflected (by omega) hk, nuBack (by omega) hk]
  exact ⟨rfl, rfl⟩
theorem numOf_no {a : Int} {k : Nat} (h : ¬ (0 ≤ a ∧ a ≤ 1000000000000)) : impl_NumberOfReflected.f k a = some (0, false) ∧ spec_NumberOfReflected.f k a = some (0, false) := by
  unfold impl_NumberOfReflected.f spec_NumberOfReflected.f
  rw [isR_no h, nuIs_no h]
  exact ⟨rfl, rfl⟩
theorem nuChanged {n k : Nat} (h : n ≤ 1000000000000) (hk : 65 ≤ k) : spec_nuChanged.f k (n : Int) = some (M.ctz (n + 1) : Int) := by
  obtain ⟨r, h1, h2⟩ := digit_both (n : Int) (by omega) (by omega) 60 k 0 (by omega) (by simp; omega) (by omega)
  unfold spec_nuChanged.f
  simp only [Int.pow_zero, Int.ediv_one, Int.natCast_zero] at h1 h2
  have h3 := zeros (n := n + 1) (k := k) (by omega) (by omega) (by omega)
  unfold impl_zeros.f at h3
  rw [show ((n + 1 : Nat) : Int) = (n : Int) + 1 by omega, h2] at h3
  rw [h1, h3]
theorem chg_yes {n k : Nat} (h : n ≤ 1000000000000) (hk : 65 ≤ k) : impl_ChangedDigit.f k (n : Int) = some ((M.ctz (n + 1) : Int), true) ∧ spec_ChangedDigit.f k (n : Int) = some ((M.ctz (n + 1) : Int), true) := by
  unfold impl_ChangedDigit.f spec_ChangedDigit.f
  rw [isR_yes h, nuIs_yes h, w64 (by omega) (by omega), show (n : Int) + 1 = ((n + 1 : Nat) : Int) by omega, zeros (by omega) (by omega) (by omega), nuChanged h hk]
  exact ⟨rfl, rfl⟩
theorem chg_no {a : Int} {k : Nat} (h : ¬ (0 ≤ a ∧ a ≤ 1000000000000)) : impl_ChangedDigit.f k a = some (0, false) ∧ spec_ChangedDigit.f k a = some (0, false) := by
  unfold impl_ChangedDigit.f spec_ChangedDigit.f
  rw [isR_no h, nuIs_no h]
  exact ⟨rfl, rfl⟩
theorem plain_same (a b : Int) : spec_PlainSum.f a b = impl_PlainSum.f a b := by
  unfold impl_PlainSum.f spec_PlainSum.f
  simp only [nuIs, isR]
theorem plain_yes {a b : Nat} (ha : a ≤ 1000000000000) (hb : b ≤ 1000000000000) : impl_PlainSum.f (a : Int) (b : Int) = some (((a ^^^ b : Nat) : Int), true) := by
  unfold impl_PlainSum.f
  rw [isR_yes ha, isR_yes hb, xor_nat (by omega) (by omega)]
  rfl
theorem plain_no {a b : Int} (h : ¬ ((0 ≤ a ∧ a ≤ 1000000000000) ∧ (0 ≤ b ∧ b ≤ 1000000000000))) : impl_PlainSum.f a b = some (0, false) := by
  unfold impl_PlainSum.f
  by_cases ha : 0 ≤ a ∧ a ≤ 1000000000000
  · rw [isR, decide_eq_true ha, isR_no (fun hb => h ⟨ha, hb⟩)]; rfl
  · rw [isR_no ha]; rfl
theorem changes_nat {x d : Nat} (hx : x ≤ 1000000000000) (hd : d ≤ 50) : impl_changes.f (x : Int) (d : Int) = some (M.cnt d x : Int) ∧ spec_nuTimes.f (x : Int) (d : Int) = some (M.cnt d x : Int) := by
  unfold impl_changes.f spec_nuTimes.f M.cnt
  have h1 : x / 2 ^ d ≤ x := Nat.div_le_self _ _
  have h2 : x / 2 ^ (d + 1) ≤ x / 2 ^ d := by rw [M.div_pow_succ']; exact Nat.div_le_self _ _
  rw [w64 (x := (d : Int) + 1) (by omega) (by omega), show (d : Int) + 1 = ((d + 1 : Nat) : Int) by omega, shr_nat (by omega), shr_nat (by omega), if_pos (by omega), if_pos (by omega)]
  generalize x / 2 ^ (d + 1) = p at h1 h2 ⊢
  generalize x / 2 ^ d = q at h1 h2 ⊢
  rw [w64 (by omega) (by omega)]
  have : (q : Int) - (p : Int) = ((q - p : Nat) : Int) := by omega
  rw [this]
  exact ⟨rfl, rfl⟩
/-- how often a digit changes: what both functions say -/
def TM (a b d : Int) (t : Int) (c : Bool) : Prop := (∃ x y e : Nat, a = x ∧ b = y ∧ d = e ∧ x ≤ y ∧ y ≤ 1000000000000 ∧ e ≤ 50 ∧ t = (M.cnt e y : Int) - (M.cnt e x : Int) ∧ c = true) ∨ c = false
theorem times_all (a b d : Int) : ∃ t c, TM a b d t c ∧ ∀ k, impl_TimesChanged.f (k + 1) a b d = some (t, c) ∧ spec_TimesChanged.f (k + 1) a b d = some (t, c) := by
  by_cases h : (0 ≤ a ∧ a ≤ 1000000000000) ∧ (0 ≤ b ∧ b ≤ 1000000000000) ∧ ¬ a > b ∧ (0 ≤ d ∧ d ≤ 50)
  · obtain ⟨h1, h2, h3, h4⟩ := h
    obtain ⟨x, rfl⟩ := Int.eq_ofNat_of_zero_le h1.1
    obtain ⟨y, rfl⟩ := Int.eq_ofNat_of_zero_le h2.1
    obtain ⟨e, rfl⟩ := Int.eq_ofNat_of_zero_le h4.1
    refine ⟨(M.cnt e y : Int) - (M.cnt e x : Int), true, .inl ⟨x, y, e, rfl, rfl, rfl, by omega, by omega, by omega, rfl, rfl⟩, fun k => ?_⟩
    have g1 := changes_nat (x := x) (d := e) (by omega) (by omega)
    have g2 := changes_nat (x := y) (d := e) (by omega) (by omega)
    have g3 := M.cnt_le_self e x
    have g4 := M.cnt_le_self e y
    unfold impl_TimesChanged.f spec_TimesChanged.f
    rw [isR_yes (by omega), isR_yes (by omega), nuIs_yes (by omega), nuIs_yes (by omega), in_valN, in_decN, decide_eq_true h4]
    simp only [Option.bind_some, if_true, if_neg h3, impl_TimesChanged.j0, spec_TimesChanged.j0, Bool.not_true, Bool.false_eq_true, if_false, g1.1, g1.2, g2.1, g2.2]
    rw [w64 (by omega) (by omega)]
    exact ⟨by trivial, by trivial⟩
  · refine ⟨0, false, .inr rfl, fun k => ?_⟩
    unfold impl_TimesChanged.f spec_TimesChanged.f
    simp only [isR, nuIs, in_valN, in_decN]
    by_cases h1 : 0 ≤ a ∧ a ≤ 1000000000000
    · by_cases h2 : 0 ≤ b ∧ b ≤ 1000000000000
      · by_cases h3 : a > b
        · simp only [decide_eq_true h1, decide_eq_true h2, Option.bind_some, if_true, if_pos h3, impl_TimesChanged.j0, spec_TimesChanged.j0]
          exact ⟨by trivial, by trivial⟩
        · have h4 : ¬ (0 ≤ d ∧ d ≤ 50) := fun h4 => h ⟨h1, h2, h3, h4⟩
          simp only [decide_eq_true h1, decide_eq_true h2, decide_eq_false h4, Option.bind_some, if_true, if_neg h3, impl_TimesChanged.j0, spec_TimesChanged.j0, Bool.not_false]
          exact ⟨by trivial, by trivial⟩
      · simp only [decide_eq_true h1, decide_eq_false h2, Option.bind_some, if_true, Bool.false_eq_true, if_false, impl_TimesChanged.j0, spec_TimesChanged.j0]
        exact ⟨by trivial, by trivial⟩
    · simp only [decide_eq_false h1, Option.bind_some, if_true, Bool.false_eq_true, if_false, impl_TimesChanged.j0, spec_TimesChanged.j0]
      exact ⟨by trivial, by trivial⟩
/-- a number as a text: what both functions say -/
def TX (a b : Int) (t : ByteArray) (c : Bool) : Prop := (∃ n r : Nat, a = n ∧ b = r ∧ n ≤ 1000000000000 ∧ 1 ≤ r ∧ r ≤ 40 ∧ n < 2 ^ r ∧ t = sb (M.st r n).reverse ∧ c = true) ∨ c = false
theorem gray_zero {n r : Nat} : M.gray n / 2 ^ r = 0 ↔ n < 2 ^ r := by
  rw [Nat.div_eq_zero_iff]
  have : 0 < 2 ^ r := Nat.pow_pos (by decide)
  constructor
  · rintro (h | h)
    · omega
    · have := M.inv_lt h; rwa [M.inv_gray] at this
  · exact fun h => .inr (M.gray_lt h)
theorem text_yes {n r k : Nat} (h : n ≤ 1000000000000) (h1 : 1 ≤ r) (h2 : r ≤ 40) (h3 : n < 2 ^ r) (hk : 60 ≤ k) :
    impl_ReflectedText.f k (n : Int) (r : Int) = some (sb (M.st r n).reverse, true) ∧ spec_ReflectedText.f k (n : Int) (r : Int) = some (sb (M.st r n).reverse, true) := by
  have hg := gray_zero.2 h3
  have q3 : ¬ ((M.gray n / 2 ^ r : Nat) : Int) > 0 := by omega
  have q1 : 1 ≤ (r : Int) ∧ (r : Int) ≤ 40 := by omega
  have q2 : (0 : Int) ≤ r := by omega
  constructor
  · unfold impl_ReflectedText.f
    rw [isR_yes h, in_valN, decide_eq_true q1, gray_int (by omega), shr_nat (by omega), state (by omega) (by omega) (by omega)]
    have q4 : (sb (M.st r n)).size ≤ 9223372036854775807 := by rw [sb_size, M.st_length]; omega
    simp only [q2, q3, q4, if_true, Option.bind_some, if_false]
    rw [bytesOf_sb, ← List.map_reverse, strOfNums_nsg]
  · obtain ⟨k, rfl⟩ : ∃ m, k = m + 1 := ⟨k - 1, by omega⟩
    unfold spec_ReflectedText.f spec_nuOf.f
    rw [nuIs_yes h, in_decN, decide_eq_true q1, gray_int' (by omega)]
    simp only [Option.bind_some]
    rw [shr_nat (by omega)]
    simp only [q2, q3, if_true, decide_false, Option.bind_some, spec_ReflectedText.j0, Bool.false_eq_true, if_false]
    have h := refText_l0 (r := r) (n := n) (by omega) (by omega) r k (by omega) (by omega)
    rw [List.drop_of_length_le (by rw [M.st_length]; omega)] at h
    rw [w64 (by omega) (by omega)]
    exact h
theorem text_all (a b : Int) : ∃ t c, TX a b t c ∧ ∀ k, 60 ≤ k → impl_ReflectedText.f k a b = some (t, c) ∧ spec_ReflectedText.f k a b = some (t, c) := by
  by_cases h : (0 ≤ a ∧ a ≤ 1000000000000) ∧ (1 ≤ b ∧ b ≤ 40)
  · obtain ⟨h1, h2⟩ := h
    obtain ⟨n, rfl⟩ := Int.eq_ofNat_of_zero_le h1.1
    obtain ⟨r, rfl⟩ := Int.eq_ofNat_of_zero_le (show 0 ≤ b by omega)
    by_cases h3 : n < 2 ^ r
    · exact ⟨_, true, .inl ⟨n, r, rfl, rfl, by omega, by omega, by omega, h3, rfl, rfl⟩, fun k hk => text_yes (by omega) (by omega) (by omega) h3 hk⟩
    · refine ⟨⟨#[]⟩, false, .inr rfl, fun k hk => ?_⟩
      have hg : ¬ M.gray n / 2 ^ r = 0 := fun hh => h3 (gray_zero.1 hh)
      have q3 : ((M.gray n / 2 ^ r : Nat) : Int) > 0 := Int.natCast_pos.2 (Nat.pos_of_ne_zero hg)
      have q2 : (0 : Int) ≤ r := by omega
      obtain ⟨k, rfl⟩ : ∃ m, k = m + 1 := ⟨k - 1, by omega⟩
      constructor
      · unfold impl_ReflectedText.f
        rw [isR_yes (by omega), in_valN, decide_eq_true h2, gray_int (by omega), shr_nat (by omega)]
        simp only [q2, q3, if_true, Option.bind_some]
      · unfold spec_ReflectedText.f spec_nuOf.f
        rw [nuIs_yes (by omega), in_decN, decide_eq_true h2, gray_int' (by omega)]
        simp only [Option.bind_some]
        rw [shr_nat (by omega)]
        simp only [q2, q3, if_true, decide_true, Option.bind_some, spec_ReflectedText.j0]
  · refine ⟨⟨#[]⟩, false, .inr rfl, fun k hk => ?_⟩
    obtain ⟨k, rfl⟩ : ∃ m, k = m + 1 := ⟨k - 1, by omega⟩
    unfold impl_ReflectedText.f spec_ReflectedText.f
    simp only [isR, nuIs, in_valN, in_decN]
    by_cases h1 : 0 ≤ a ∧ a ≤ 1000000000000
    · have h2 : ¬ (1 ≤ b ∧ b ≤ 40) := fun h2 => h ⟨h1, h2⟩
      simp only [decide_eq_true h1, decide_eq_false h2, Option.bind_some, if_true, Bool.false_eq_true, if_false, spec_ReflectedText.j0]
      exact ⟨by trivial, by trivial⟩
    · simp only [decide_eq_false h1, Option.bind_some, if_true, Bool.false_eq_true, if_false, spec_ReflectedText.j0]
      exact ⟨by trivial, by trivial⟩
theorem val_app (b : Bool) : ∀ l : List Bool, M.val (l ++ [b]) = M.val l + 2 ^ l.length * M.b2 b
  | [] => by simp [M.val]
  | c :: r => by
    rw [List.cons_append, M.val, val_app b r, M.val, List.length_cons, Nat.pow_succ]
    rw [Nat.mul_add, Nat.add_assoc, Nat.mul_comm (2 ^ r.length) 2, Nat.mul_assoc]
theorem ev_val : ∀ (l : List Bool) (g : Nat), ev g l = g * 2 ^ l.length + M.val l.reverse
  | [], g => by simp [ev, M.val]
  | b :: r, g => by
    rw [ev, ev_val r, List.reverse_cons, val_app, List.length_reverse, List.length_cons, Nat.pow_succ, Nat.add_mul, Nat.mul_comm (M.b2 b), Nat.mul_comm 2 g, Nat.mul_assoc g 2, Nat.mul_comm 2 (2 ^ r.length)]
    omega
theorem ev_num (bs : List Bool) : M.inv (ev 0 bs) = M.num bs.reverse := by
  rw [ev_val, Nat.zero_mul, Nat.zero_add, M.inv_val]
/-- the number that a text tells: what both functions say -/
def RK (s : ByteArray) (r : Int) (c : Bool) : Prop := (∃ bs : List Bool, s = sb bs ∧ 1 ≤ bs.length ∧ bs.length ≤ 40 ∧ r = (M.num bs.reverse : Int) ∧ c = true) ∨ c = false
theorem rank_all (s : ByteArray) (hs : s.size ≤ 1048576) : ∃ r c, RK s r c ∧ (∀ bs : List Bool, s = sb bs → 1 ≤ bs.length → bs.length ≤ 40 → r = (M.num bs.reverse : Int) ∧ c = true) ∧ ∀ k, 300 ≤ k → impl_RankOfText.f k s = some (r, c) ∧ spec_RankOfText.f k s = some (r, c) := by
  obtain ⟨l, rfl⟩ : ∃ l, s = tx l := ⟨s.data.toList, tx_of s⟩
  unfold spec_RankOfText.f impl_RankOfText.f
  simp only [in_valN, in_decN]
  rw [tx_size] at hs ⊢
  by_cases h1 : 1 ≤ l.length ∧ l.length ≤ 40
  · have g1 : 1 ≤ (l.length : Int) ∧ (l.length : Int) ≤ 40 := by omega
    have h2 := h1.2
    have ht : strings_Trim.f (tx l) (⟨#[48, 49]⟩ : ByteArray) = some (tx (Lib.trimS l [48, 49])) := by
      rw [show (⟨#[48, 49]⟩ : ByteArray) = tx [48, 49] from rfl, trim_f (by omega) (by decide) (by decide)]
    have key : ((tx (Lib.trimS l [48, 49])).toList != ([] : List UInt8)) = !(l.all isB) := by
      rw [bne, tx_toList, nil_beq]
      congr 1
      rw [Bool.eq_iff_iff, List.isEmpty_iff, trim_nil, List.all_eq_true]
      constructor
      · intro h c hc; have := h c hc; simpa [isB] using this
      · intro h c hc; have := h c hc; simpa [isB] using this
    simp only [decide_eq_true g1, if_true, Option.bind_some, ht, key]
    cases q : l.all isB with
    | true =>
      obtain ⟨bs, rfl⟩ := all_sg q
      have hb : bs.length ≤ 40 := by simpa using h2
      refine ⟨(M.num bs.reverse : Int), true, .inl ⟨bs, rfl, by simpa using h1.1, hb, rfl, rfl⟩, ?_, fun k hk => ?_⟩
      · intro bs' he _ _
        have : bs = bs' := sb_inj he
        subst this
        exact ⟨by trivial, by trivial⟩
      · obtain ⟨k, rfl⟩ : ∃ m, k = m + 1 := ⟨k - 1, by omega⟩
        have e1 := specRank_l0 hb bs (k + 1) 0 0 (by simp) (by omega) (by decide) (by omega)
        have e2 := implRank_l0 hb bs k 0 0 (by simp) (by omega) (by decide) (by omega)
        rw [ev_num] at e1 e2
        refine ⟨?_, e1⟩
        rw [impl_RankOfText.j0]
        have hz : (tx (bs.map sg)).size = bs.length := by rw [tx_size, List.length_map]
        simp only [Bool.not_true, Bool.false_eq_true, if_false, hz]
        exact e2
    | false =>
      refine ⟨0, false, .inr rfl, ?_, fun k hk => ?_⟩
      · intro bs he _ _
        have : l = bs.map sg := tx_inj he
        subst this
        exfalso
        have : (bs.map sg).all isB = true := by
          rw [List.all_eq_true]
          intro c hc
          obtain ⟨b, _, rfl⟩ := List.mem_map.1 hc
          cases b <;> rfl
        rw [this] at q; cases q
      · obtain ⟨k, rfl⟩ : ∃ m, k = m + 1 := ⟨k - 1, by omega⟩
        refine ⟨?_, specRank_bad h2 l (k + 1) 0 0 (by simp) q (by omega)⟩
        rw [impl_RankOfText.j0]
        simp
  · have g1 : ¬ (1 ≤ (l.length : Int) ∧ (l.length : Int) ≤ 40) := by omega
    refine ⟨0, false, .inr rfl, ?_, fun k hk => ?_⟩
    · intro bs he hb1 hb2
      have : l = bs.map sg := tx_inj he
      subst this
      rw [List.length_map] at h1
      omega
    · obtain ⟨k, rfl⟩ : ∃ m, k = m + 1 := ⟨k - 1, by omega⟩
      simp only [decide_eq_false g1, Option.bind_some, Bool.false_eq_true, if_false]
      exact ⟨by rw [impl_RankOfText.j0]; simp, by trivial⟩
theorem rank_sb {bs : List Bool} {k : Nat} (h1 : 1 ≤ bs.length) (h2 : bs.length ≤ 40) (hk : 300 ≤ k) : impl_RankOfText.f k (sb bs) = some ((M.num bs.reverse : Int), true) := by
  obtain ⟨r, c, _, h3, h4⟩ := rank_all (sb bs) (by rw [sb_size]; omega)
  obtain ⟨rfl, rfl⟩ := h3 bs rfl h1 h2
  exact (h4 k hk).1

end Go.Proofs.YtancjdpdinbddaaDoor.Pure
