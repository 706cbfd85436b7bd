/- What the printed functions of bolts give. -/
import Derived.Test.YtpbgloppcenljaaAx0
import Derived.Test.YtpbgloppcenljaaAx1
import Derived.Test.YtpbgloppcenljaaAx2
import Derived.Test.YtpbgloppcenljaaAx3
import Derived.Test.YtpbgloppcenljaaAx4
import Derived.Test.YtpbgloppcenljaaAx5
import Derived.Test.YtpbgloppcenljaaAx6
import Derived.Test.YtpbgloppcenljaaAx7
import Derived.Test.YtpbgloppcenljaaAx8
import Derived.Test.YtpbgloppcenljaaM1
set_option linter.unusedVariables false
set_option linter.unusedSimpArgs false
namespace Go.Proofs.Ytpbgloppcenljaa.Pure
open Go.RowKit Go.Proofs.Ytpbgloppcenljaa.A Go.Proofs.YtpbgloppcenljaaW.PrintWords Go.Proofs.YtpbgloppcenljaaW.PrintLast Go.Proofs.YtpbgloppcenljaaW.PrintMore

theorem wf64 {a : Int} (h : (Lit.int .i64 a).wf = true) : -9223372036854775808 ≤ a ∧ a ≤ 9223372036854775807 := by
  simpa [Lit.wf, IntKind.min, IntKind.max, IntKind.bits, IntKind.signed] using h
theorem w64 {x : Int} (h0 : -9223372036854775808 ≤ x) (h1 : x ≤ 9223372036854775807) : wrap64 x = x := by unfold wrap64; omega
theorem tdiv2 {x : Int} (h : 0 ≤ x) (h1 : x ≤ 9223372036854775807) : wrap64 (Int.tdiv x 2) = x / 2 := by
  rw [Int.tdiv_eq_ediv_of_nonneg h]; exact w64 (by omega) (by omega)
theorem and1 {x : Int} (h0 : 0 ≤ x) (h1 : x ≤ 9223372036854775807) : Go.bits .and .i64 x 1 = x % 2 := by
  have := Go.bits_mask .i64 63 (by decide) (fun n h0 h1 => by rw [IntKind.wrap_i64]; omega) 1 (by decide) x h0 (by omega)
  simpa using this
theorem shr_eq {x y : Int} (h : y ≤ 64) : shr .i64 x y = x / 2 ^ y.toNat := (shr_small rfl h).symm
theorem shl_one {y : Nat} (h : y ≤ 62) : shl .i64 1 (y : Int) = ((2 ^ y : Nat) : Int) := by
  have e := shl_small (k := .i64) (x := 1) (y := (y : Int)) rfl (by simp [IntKind.bits]; omega)
  rw [← e, Int.toNat_natCast, IntKind.wrap_i64]
  have hp : 2 ^ y ≤ 2 ^ 62 := Nat.pow_le_pow_right (by decide) h
  have hc : ((2 ^ y : Nat) : Int) = 2 ^ y := by simp
  rw [hc] at *
  have h2 : (2 : Int) ^ y ≤ 4611686018427387904 := by
    rw [← hc]; have : ((2 ^ y : Nat) : Int) ≤ ((2 ^ 62 : Nat) : Int) := by exact_mod_cast hp
    simpa using this
  have h3 : (0 : Int) ≤ 2 ^ y := by rw [← hc]; exact Int.natCast_nonneg _
  omega
theorem xor_nat {a b : Nat} (ha : a < 2 ^ 63) (hb : b < 2 ^ 63) : Go.bits .xor .i64 (a : Int) (b : Int) = ((a ^^^ b : Nat) : Int) := by
  have hp : a % 2 ^ 64 = a := Nat.mod_eq_of_lt (Nat.lt_trans ha (by decide))
  have hq : b % 2 ^ 64 = b := Nat.mod_eq_of_lt (Nat.lt_trans hb (by decide))
  have hx : a ^^^ b < 2 ^ 63 := Nat.xor_lt_two_pow ha hb
  have e : Go.bits .xor .i64 (a : Int) (b : Int) = IntKind.i64.wrap (((a % 2 ^ 64) ^^^ (b % 2 ^ 64) : Nat) : Int) := by
    simp only [Go.bits, BitVec.ofInt_natCast, BitVec.toNat_xor, BitVec.toNat_ofNat]; rfl
  rw [e, hp, hq, IntKind.wrap_i64]; omega
theorem or_nat {a b : Nat} (ha : a < 2 ^ 63) (hb : b < 2 ^ 63) : Go.bits .or .i64 (a : Int) (b : Int) = ((a ||| b : Nat) : Int) :=
  (Go.bits_nat .i64 63 (by decide) (fun n h0 h1 => by rw [IntKind.wrap_i64]; omega) a b ha hb).2
theorem shr_nat {a y : Nat} (h : y ≤ 64) : shr .i64 (a : Int) (y : Int) = ((a / 2 ^ y : Nat) : Int) := by
  rw [shr_eq (by omega), Int.toNat_natCast]; simp
theorem and_shr {a y : Nat} (ha : a < 2 ^ 63) (h : y ≤ 64) : Go.bits .and .i64 (shr .i64 (a : Int) (y : Int)) 1 = ((a / 2 ^ y % 2 : Nat) : Int) := by
  have := Nat.div_le_self a (2 ^ y)
  rw [shr_nat h]
  generalize a / 2 ^ y = q at *
  rw [and1 (by omega) (by omega)]; omega
/-- a number reflected -/
theorem gray_int {n : Nat} (h : n < 2 ^ 63) : Go.bits .xor .i64 (n : Int) (wrap64 (Int.tdiv (n : Int) 2)) = (M.gray n : Int) := by
  rw [tdiv2 (by omega) (by omega), show ((n : Int) / 2) = ((n / 2 : Nat) : Int) by omega, xor_nat h (by omega)]; rfl
theorem gray_int' {n : Nat} (h : n < 2 ^ 63) : Go.bits .xor .i64 (n : Int) ((n : Int) / 2) = (M.gray n : Int) := by
  rw [show ((n : Int) / 2) = ((n / 2 : Nat) : Int) by omega, xor_nat h (by omega)]; rfl
/-! texts -/
def tx (l : List UInt8) : ByteArray := ⟨l.toArray⟩
theorem tx_data (l : List UInt8) : (tx l).data.toList = l := by simp [tx]
theorem tx_of (s : ByteArray) : s = tx s.data.toList := by simp [tx]
theorem tx_toList (l : List UInt8) : (tx l).toList = l := by rw [ByteArray.toList_eq, tx_data]
theorem tx_size (l : List UInt8) : (tx l).size = l.length := by simp [tx, ByteArray.size]
theorem tx_app (a b : List UInt8) : tx a ++ tx b = tx (a ++ b) := by
  apply ByteArray.ext
  simp [tx, ByteArray.data_append]
theorem tx_inj {a b : List UInt8} (h : tx a = tx b) : a = b := by rw [← tx_data a, ← tx_data b, h]
theorem bt_tx (l : List UInt8) (i : Nat) : bt (tx l) (i : Int) = ((l.getD i 0).toNat : Int) := by
  unfold bt
  rw [Int.toNat_natCast]
  by_cases h : i < (tx l).size
  · rw [dif_pos h]
    have h' : i < l.length := by rwa [tx_size] at h
    congr 1
    show ((tx l).data[i]'h).toNat = _
    simp [tx, h', List.getD]
  · rw [dif_neg h]
    have h' : ¬ i < l.length := by rwa [tx_size] at h
    rw [List.getD, List.getElem?_eq_none (by omega)]; rfl
theorem tx_nil : (⟨#[]⟩ : ByteArray) = tx [] := rfl
/-! signs -/
def sg (b : Bool) : UInt8 := if b then 49 else 48
def sb (bs : List Bool) : ByteArray := tx (bs.map sg)
theorem sb_size (bs : List Bool) : (sb bs).size = bs.length := by rw [sb, tx_size, List.length_map]
theorem sg_inj : ∀ {a b : Bool}, sg a = sg b → a = b
  | true, true, _ => rfl
  | false, false, _ => rfl
  | true, false, h => by simp [sg] at h
  | false, true, h => by simp [sg] at h
theorem map_sg_inj : ∀ {a b : List Bool}, a.map sg = b.map sg → a = b
  | [], [], _ => rfl
  | [], _ :: _, h => by simp at h
  | _ :: _, [], h => by simp at h
  | x :: a, y :: b, h => by
    simp only [List.map_cons, List.cons.injEq] at h
    rw [sg_inj h.1, map_sg_inj h.2]
theorem sb_inj {a b : List Bool} (h : sb a = sb b) : a = b := map_sg_inj (tx_inj h)
theorem sb_eq {a b : List Bool} : sb a = sb b ↔ a = b := ⟨sb_inj, fun h => by rw [h]⟩
theorem sb_toList (bs : List Bool) : (sb bs).toList = bs.map sg := tx_toList _
theorem bt_sb {bs : List Bool} {i : Nat} {b : Bool} (h : bs[i]? = some b) : bt (sb bs) (i : Int) = if b then 49 else 48 := by
  rw [sb, bt_tx, List.getD, List.getElem?_map, h]
  cases b <;> rfl

/-! lists of numbers -/
theorem rd_nat {l : List Int} {i : Nat} {x : Int} (h : l[i]? = some x) : rd l (i : Int) = x := by
  unfold rd; rw [Int.toNat_natCast, List.getD, h]; rfl
def mk : Int → Nat → List Int
  | _, 0 => []
  | m, d + 1 => m :: mk (m + 1) d
theorem mk_length (m : Int) (d : Nat) : (mk m d).length = d := by
  induction d generalizing m with
  | zero => rfl
  | succ d ih => simp [mk, ih]
theorem getElem?_drop_cons {α : Type} {l r : List α} {i : Nat} {x : α} (h : l.drop i = x :: r) : l[i]? = some x ∧ l.drop (i + 1) = r ∧ i < l.length := by
  have h1 : (l.drop i)[0]? = some x := by rw [h]; rfl
  rw [List.getElem?_drop, Nat.add_zero] at h1
  refine ⟨h1, ?_, (List.getElem?_eq_some_iff.1 h1).1⟩
  rw [← List.drop_drop, h]; rfl
theorem drop_cons {α : Type} {l : List α} {i : Nat} (h : i < l.length) : ∃ x r, l.drop i = x :: r := ⟨l[i], l.drop (i + 1), List.drop_eq_getElem_cons h⟩

theorem eqIntS_l0 {a b : List Int} (hl : a.length = b.length) (hb : a.length ≤ 281474976710656) (d : Nat) : ∀ (k i : Nat), i + d = a.length → d < k → a.take i = b.take i →
    laws_eqIntS.l0 k a b (i : Int) = some (decide (a = b)) := by
  induction d with
  | zero =>
    intro k i hi hk ht
    obtain ⟨k, rfl⟩ : ∃ m, k = m + 1 := ⟨k - 1, by omega⟩
    simp only [laws_eqIntS.l0]
    rw [if_neg (by omega)]
    rw [List.take_of_length_le (by omega), List.take_of_length_le (by omega)] at ht
    simp [ht]
  | succ d ih =>
    intro k i hi hk ht
    obtain ⟨k, rfl⟩ : ∃ m, k = m + 1 := ⟨k - 1, by omega⟩
    have ha : a[i]? = some a[i] := List.getElem?_eq_getElem (by omega)
    have hb' : b[i]? = some b[i] := List.getElem?_eq_getElem (by omega)
    simp only [laws_eqIntS.l0]
    rw [if_pos (by omega), if_pos (by omega), if_pos (by omega), rd_nat ha, rd_nat hb', w64 (by omega) (by omega)]
    by_cases e : a[i] = b[i]
    · rw [if_pos e, show ((i : Int) + 1) = ((i + 1 : Nat) : Int) by omega]
      exact ih k (i + 1) (by omega) (by omega) (by rw [List.take_add_one, List.take_add_one, ht, ha, hb', e])
    · rw [if_neg e]
      have : a ≠ b := by rintro rfl; exact e rfl
      simp [this]
theorem eqIntS {a b : List Int} {k : Nat} (ha : a.length ≤ 281474976710656) (hk : a.length < k) : laws_eqIntS.f k a b = some (decide (a = b)) := by
  unfold laws_eqIntS.f
  by_cases e : a.length = b.length
  · rw [if_pos (by omega)]
    exact eqIntS_l0 e ha a.length k 0 (by omega) hk (by simp)
  · rw [if_neg (by omega)]
    have : a ≠ b := by rintro rfl; exact e rfl
    simp [this]

theorem toIntS_l0 (d : Nat) : ∀ (k i : Nat) (x y : List Int), i + d = x.length → y.length = x.length → x.length ≤ 281474976710656 → d < k →
    laws_toIntS.l0 k x y (i : Int) = some (y.take i ++ x.drop i) := by
  induction d with
  | zero =>
    intro k i x y hi hy hx hk
    obtain ⟨k, rfl⟩ : ∃ m, k = m + 1 := ⟨k - 1, by omega⟩
    simp only [laws_toIntS.l0]
    rw [if_neg (by omega), List.take_of_length_le (by omega), List.drop_of_length_le (by omega), List.append_nil]
  | succ d ih =>
    intro k i x y hi hy hx hk
    obtain ⟨k, rfl⟩ : ∃ m, k = m + 1 := ⟨k - 1, by omega⟩
    obtain ⟨a, r, ha⟩ := drop_cons (l := x) (i := i) (by omega)
    obtain ⟨h2, h3, h4⟩ := getElem?_drop_cons ha
    simp only [laws_toIntS.l0]
    rw [if_pos (by omega), if_pos (by omega), if_pos (by omega), rd_nat h2, w64 (by omega) (by omega), Int.toNat_natCast, show ((i : Int) + 1) = ((i + 1 : Nat) : Int) by omega]
    rw [ih k (i + 1) x (y.set i a) (by omega) (by simpa using hy) hx (by omega)]
    rw [ha, h3, List.take_add_one, List.take_set_of_le (Nat.le_refl i), List.getElem?_set_self (by omega)]; simp
theorem toIntS {l : List Int} {k : Nat} (hl : l.length ≤ 2000000) (hk : l.length < k) : laws_toIntS.f k l = some l := by
  unfold laws_toIntS.f
  rw [if_pos (by omega), Int.toNat_natCast, if_pos (by omega)]
  have := toIntS_l0 l.length k 0 l (List.replicate l.length 0) (by omega) (by simp) (by omega) hk
  simpa using this

theorem l1All_l0 {l : List Int} {lo hi : Int} (hl : l.length ≤ 2000000) (r : List Int) : ∀ (k i : Nat), l.drop i = r → r.length < k →
    spec_l1All.l0 k lo hi l (l.length : Int) (i : Int) = some (r.all fun x => decide (lo ≤ x ∧ x ≤ hi)) := by
  induction r with
  | nil =>
    intro k i hd hk
    obtain ⟨k, rfl⟩ : ∃ m, k = m + 1 := ⟨k - 1, by omega⟩
    have : l.length ≤ i := List.drop_eq_nil_iff.1 hd
    simp only [spec_l1All.l0]
    rw [if_neg (by omega)]; rfl
  | cons x r ih =>
    intro k i hd hk
    obtain ⟨k, rfl⟩ : ∃ m, k = m + 1 := ⟨k - 1, by omega⟩
    obtain ⟨h2, h3, h4⟩ := getElem?_drop_cons hd
    simp only [spec_l1All.l0, spec_l1In.f]
    rw [if_pos (by omega), if_pos (by omega), if_pos (by omega), rd_nat h2, w64 (x := (i : Int) + 1) (by omega) (by omega), show ((i : Int) + 1) = ((i + 1 : Nat) : Int) by omega]
    rw [ih k (i + 1) h3 (by simp at hk; omega)]
    by_cases q0 : x ≥ lo
    · have q0' : lo ≤ x := q0
      by_cases q1 : x ≤ hi
      · simp [q0', q1]
      · simp [q0', q1]
    · have q0' : ¬ lo ≤ x := q0
      simp [q0']
theorem l1All {l : List Int} {lo hi : Int} {k : Nat} (hl : l.length ≤ 2000000) (hk : l.length < k) : spec_l1All.f k l lo hi = some (l.all fun x => decide (lo ≤ x ∧ x ≤ hi)) := by
  unfold spec_l1All.f
  exact l1All_l0 hl l k 0 (by simp) hk

theorem in_val0 (n a b : Int) : impl_in.f n a b = some (decide (a ≤ n ∧ n ≤ b)) := by
  unfold impl_in.f
  by_cases h : n ≥ a
  · rw [if_pos h]; have h' : a ≤ n := h; simp [h']
  · rw [if_neg h]; have h' : ¬ a ≤ n := h; simp [h']
theorem in_dec0 (n a b : Int) : spec_l1In.f n a b = some (decide (a ≤ n ∧ n ≤ b)) := by
  unfold spec_l1In.f
  by_cases h : n ≥ a
  · rw [if_pos h]; have h' : a ≤ n := h; simp [h']
  · rw [if_neg h]; have h' : ¬ a ≤ n := h; simp [h']
/-! blocks -/
theorem isBlock_eq (l0 : List Int) (l1 : List S56) (a b c d : Int) : impl_Bolts_isBlock.f l0 l1 a b c d = spec_boBlock.f l0 l1 a b c d := by
  unfold impl_Bolts_isBlock.f spec_boBlock.f
  simp only [in_val0, in_dec0]
/-- a block that is one -/
def ob (l0 : List Int) (x : S56) : Bool := decide (0 ≤ x.f0 ∧ x.f0 ≤ (l0.length : Int) - 1) && (decide (0 ≤ x.f2 ∧ x.f2 ≤ (l0.length : Int) - 1) && (!(decide (x.f0 = x.f2)) && (decide (0 ≤ x.f1 ∧ x.f1 ≤ wrap64 (rd l0 x.f0 - 1)) && decide (0 ≤ x.f3 ∧ x.f3 ≤ wrap64 (rd l0 x.f2 - 1)))))
theorem boBlock_val {l0 : List Int} (l1 : List S56) (hl : l0.length ≤ 2000000) (x : S56) : spec_boBlock.f l0 l1 x.f0 x.f1 x.f2 x.f3 = some (ob l0 x) := by
  have ew : Aside0 (wrap64 ((l0.length : Int) - 1) = (l0.length : Int) - 1) := ⟨w64 (by omega) (by omega)⟩
  unfold spec_boBlock.f ob
  simp only [in_dec0]
  rw [ew.out]
  by_cases c1 : 0 ≤ x.f0 ∧ x.f0 ≤ (l0.length : Int) - 1
  · have d1 : x.f0 < (l0.length : Int) := by omega
    by_cases c2 : 0 ≤ x.f2 ∧ x.f2 ≤ (l0.length : Int) - 1
    · have d2 : x.f2 < (l0.length : Int) := by omega
      by_cases c3 : x.f0 = x.f2
      · simp [c1, c2, c3]
      · by_cases c4 : 0 ≤ x.f1 ∧ x.f1 ≤ wrap64 (rd l0 x.f0 - 1)
        · rw [decide_eq_true c1, decide_eq_true c2, decide_eq_true c4]
          simp only [Option.bind_some, if_true]
          rw [if_neg c3, if_pos c1.1, if_pos d1, if_pos c2.1, if_pos d2]
          simp [c3]
        · rw [decide_eq_true c1, decide_eq_true c2, decide_eq_false c4]
          simp only [Option.bind_some, if_true]
          rw [if_neg c3, if_pos c1.1, if_pos d1]
          simp
    · rw [decide_eq_true c1, decide_eq_false c2]; simp
  · rw [decide_eq_false c1]; simp
theorem isBlk_val {l0 : List Int} (l1 : List S56) (hl : l0.length ≤ 2000000) (x : S56) : isBlk l0 l1 x = some (ob l0 x) := by
  unfold isBlk
  rw [isBlock_eq, boBlock_val l1 hl]
theorem rdT {l : List S56} {i : Nat} {x : S56} (h : l[i]? = some x) : rd_T56 l (i : Int) = x := by
  unfold rd_T56; rw [Int.toNat_natCast, List.getD, h]; rfl
theorem boGood_l0 {l0 : List Int} {l1 : List S56} (hl0 : l0.length ≤ 2000000) (hl : l1.length ≤ 2000000) (r : List S56) : ∀ (k i : Nat), l1.drop i = r → r.length < k →
    spec_boGood.l0 k l1 (l1.length : Int) (i : Int) l0 l1 = some (r.all (ob l0)) := by
  induction r with
  | nil =>
    intro k i hd hk
    obtain ⟨k, rfl⟩ : ∃ m, k = m + 1 := ⟨k - 1, by omega⟩
    have : l1.length ≤ i := List.drop_eq_nil_iff.1 hd
    rw [spec_boGood.l0, if_neg (by omega)]; rfl
  | cons x r ih =>
    intro k i hd hk
    obtain ⟨k, rfl⟩ : ∃ m, k = m + 1 := ⟨k - 1, by omega⟩
    obtain ⟨h2, h3, h4⟩ := getElem?_drop_cons hd
    rw [spec_boGood.l0, if_pos (by omega), if_pos (by omega), if_pos (by omega), rdT h2, boBlock_val l1 hl0]
    simp only [Option.bind_some]
    rw [w64 (by omega) (by omega), show ((i : Int) + 1) = ((i + 1 : Nat) : Int) by omega, ih k (i + 1) h3 (by simp at hk; omega), List.all_cons]
    cases ob l0 x <;> rfl
/-! how many -/
def pr : Int → List Int → Int
  | x, [] => x
  | x, a :: r => pr (wrap64 (x * a)) r
theorem product_l0 {l : List Int} (hl : l.length ≤ 2000000) (r : List Int) : ∀ (k i : Nat) (x : Int), l.drop i = r → r.length < k →
    impl_product.l0 k x l (l.length : Int) (i : Int) = some (pr x r) := by
  induction r with
  | nil =>
    intro k i x hd hk
    obtain ⟨k, rfl⟩ : ∃ m, k = m + 1 := ⟨k - 1, by omega⟩
    have : l.length ≤ i := List.drop_eq_nil_iff.1 hd
    rw [impl_product.l0, if_neg (by omega)]; rfl
  | cons y r ih =>
    intro k i x hd hk
    obtain ⟨k, rfl⟩ : ∃ m, k = m + 1 := ⟨k - 1, by omega⟩
    obtain ⟨h2, h3, h4⟩ := getElem?_drop_cons hd
    rw [impl_product.l0, if_pos (by omega), if_pos (by omega), if_pos (by omega), rd_nat h2, w64 (x := (i : Int) + 1) (by omega) (by omega), show ((i : Int) + 1) = ((i + 1 : Nat) : Int) by omega, ih k (i + 1) _ h3 (by simp at hk; omega)]
    rfl
theorem product {l : List Int} {k : Nat} (hl : l.length ≤ 2000000) (hk : l.length < k) : impl_product.f k l = some (pr 1 l) := by
  unfold impl_product.f
  exact product_l0 hl l k 0 1 (by simp) hk
theorem count_eq (k : Nat) (l0 : List Int) (l1 : List S56) : spec_boCount.f k l0 l1 = impl_product.f k l0 := by
  have h : ∀ (k : Nat) (a : Int) (l : List Int) (b c : Int), spec_boCount.l0 k a l b c = impl_product.l0 k a l b c := by
    intro k
    induction k with
    | zero => intros; rfl
    | succ k ih => intro a l b c; rw [impl_product.l0, spec_boCount.l0, ih]
  exact h k 1 l0 _ 0
/-- bolts that are some -/
def gd (l0 : List Int) (l1 : List S56) : Bool := decide (1 ≤ (l0.length : Int) ∧ (l0.length : Int) ≤ 6) && ((l0.all fun x => decide (2 ≤ x ∧ x ≤ 5)) && (decide ((l1.length : Int) ≤ 40) && (decide (pr 1 l0 ≤ 1000) && l1.all (ob l0))))
theorem boGood {l0 : List Int} {l1 : List S56} {k : Nat} (hl0 : l0.length ≤ 2000000) (hl : l1.length ≤ 2000000) (hk : l0.length + l1.length + 2 < k) : spec_boGood.f k l0 l1 = some (gd l0 l1) := by
  obtain ⟨k, rfl⟩ : ∃ m, k = m + 1 := ⟨k - 1, by omega⟩
  unfold spec_boGood.f gd
  rw [in_dec0, l1All hl0 (by omega)]
  cases hq1 : decide (1 ≤ (l0.length : Int) ∧ (l0.length : Int) ≤ 6) with
  | false => rfl
  | true =>
    cases hq2 : (l0.all fun x => decide (2 ≤ x ∧ x ≤ 5)) with
    | false => rfl
    | true =>
      simp only [Option.bind_some, if_true, Bool.true_and]
      rw [spec_boGood.j0]
      by_cases c1 : (l1.length : Int) > 40
      · have c2 : ¬ (l1.length : Int) ≤ 40 := by omega
        rw [decide_eq_true c1, decide_eq_false c2]; rfl
      · have c2 : (l1.length : Int) ≤ 40 := by omega
        rw [decide_eq_false c1, decide_eq_true c2, count_eq, product hl0 (by omega)]
        simp only [Option.bind_some, Bool.false_eq_true, if_false, Bool.true_and]
        by_cases c3 : pr 1 l0 > 1000
        · have c4 : ¬ pr 1 l0 ≤ 1000 := by omega
          rw [if_pos c3, decide_eq_false c4]; rfl
        · have c4 : pr 1 l0 ≤ 1000 := by omega
          rw [if_neg c3, decide_eq_true c4]
          have := boGood_l0 (l0 := l0) hl0 hl l1 k 0 (by simp) (by omega)
          simpa using this
theorem areBolts {l0 : List Int} {l1 : List S56} {k : Nat} (hl0 : l0.length ≤ 2000000) (hk : l0.length < k) : impl_AreBolts.f k l0 l1 = some (gd l0 l1) := by
  have e2 : (l0.any fun n => !(decide (2 ≤ n ∧ n ≤ 5))) = !(l0.all fun x => decide (2 ≤ x ∧ x ≤ 5)) := by
    rw [List.any_eq_not_all_not]; simp
  have e3 : (l1.any fun x => !((isBlk l0 l1 x).getD false)) = !(l1.all (ob l0)) := by
    have : (fun x : S56 => !((isBlk l0 l1 x).getD false)) = fun x => !(ob l0 x) := by funext x; rw [isBlk_val l1 hl0]; rfl
    rw [this, List.any_eq_not_all_not]; simp
  have e4 : (l1.all fun x => (isBlk l0 l1 x).isSome) = true := by
    rw [List.all_eq_true]
    intro x _
    rw [isBlk_val l1 hl0]; rfl
  unfold impl_AreBolts.f gd
  rw [in_val0, product hl0 hk, e2, e3, e4]
  cases hq1 : decide (1 ≤ (l0.length : Int) ∧ (l0.length : Int) ≤ 6) with
  | false => rfl
  | true =>
    simp only [Option.bind_some, if_true, Bool.true_and]
    by_cases c1 : (l1.length : Int) > 40
    · have c2 : ¬ (l1.length : Int) ≤ 40 := by omega
      rw [if_pos c1, decide_eq_false c2]; simp
    · have c2 : (l1.length : Int) ≤ 40 := by omega
      rw [if_neg c1, decide_eq_true c2]
      cases hq2 : (l0.all fun x => decide (2 ≤ x ∧ x ≤ 5)) with
      | false => rfl
      | true =>
        simp only [Bool.not_true, Bool.false_eq_true, if_false, Bool.true_and, Bool.not_not]
        by_cases c3 : pr 1 l0 ≤ 1000
        · rw [if_pos c3, decide_eq_true c3]; simp
        · rw [if_neg c3, decide_eq_false c3]; simp
/-! the law's helpers -/
def cv (x : S61) : S56 := ⟨x.f0, x.f1, x.f2, x.f3⟩
theorem rdT61 {l : List S61} {i : Nat} {x : S61} (h : l[i]? = some x) : rd_T61 l (i : Int) = x := by
  unfold rd_T61; rw [Int.toNat_natCast, List.getD, h]; rfl
theorem toBlockS_l0 (d : Nat) : ∀ (k i : Nat) (x : List S61) (y : List S56), i + d = x.length → y.length = x.length → x.length ≤ 2000000 → d < k →
    laws_toBlockS.l0 k x y (i : Int) = some (y.take i ++ (x.drop i).map cv) := by
  induction d with
  | zero =>
    intro k i x y hi hy hx hk
    obtain ⟨k, rfl⟩ : ∃ m, k = m + 1 := ⟨k - 1, by omega⟩
    rw [laws_toBlockS.l0, if_neg (by omega), List.take_of_length_le (by omega), List.drop_of_length_le (by omega), List.map_nil, List.append_nil]
  | succ d ih =>
    intro k i x y hi hy hx hk
    obtain ⟨k, rfl⟩ : ∃ m, k = m + 1 := ⟨k - 1, by omega⟩
    obtain ⟨a, r, ha⟩ := drop_cons (l := x) (i := i) (by omega)
    obtain ⟨h2, h3, h4⟩ := getElem?_drop_cons ha
    rw [laws_toBlockS.l0, if_pos (by omega), if_pos (by omega), rdT61 h2]
    simp only [laws_toBlock.f, Option.bind_some]
    rw [if_pos (by omega), w64 (by omega) (by omega), Int.toNat_natCast, show ((i : Int) + 1) = ((i + 1 : Nat) : Int) by omega]
    rw [ih k (i + 1) x _ (by omega) (by simpa using hy) hx (by omega)]
    rw [ha, h3, List.take_add_one, List.take_set_of_le (Nat.le_refl i), List.getElem?_set_self (by omega)]
    simp [cv]
theorem toBlockS {l : List S61} {k : Nat} (hl : l.length ≤ 2000000) (hk : l.length < k) : laws_toBlockS.f k l = some (l.map cv) := by
  unfold laws_toBlockS.f
  rw [if_pos (by omega), Int.toNat_natCast, if_pos (by omega)]
  have := toBlockS_l0 l.length k 0 l (List.replicate l.length z56) (by omega) (by simp) (by omega) hk
  simpa using this
theorem toBolts {l0 : List Int} {l1 : List S61} {k : Nat} (h0 : l0.length ≤ 2000000) (hl : l1.length ≤ 2000000) (hk : l0.length + l1.length < k) : laws_toBolts.f k l0 l1 = some (l0, l1.map cv) := by
  unfold laws_toBolts.f
  rw [toIntS h0 (by omega), toBlockS hl (by omega)]; rfl
theorem eqBlockS_l0 {a : List S56} (hb : a.length ≤ 2000000) (d : Nat) : ∀ (k i : Nat), i + d = a.length → d < k → laws_eqBlockS.l0 k a a (i : Int) = some true := by
  induction d with
  | zero =>
    intro k i hi hk
    obtain ⟨k, rfl⟩ : ∃ m, k = m + 1 := ⟨k - 1, by omega⟩
    rw [laws_eqBlockS.l0, if_neg (by omega)]
  | succ d ih =>
    intro k i hi hk
    obtain ⟨k, rfl⟩ : ∃ m, k = m + 1 := ⟨k - 1, by omega⟩
    rw [laws_eqBlockS.l0, if_pos (by omega), if_pos (by omega), if_pos (by omega)]
    simp only [laws_eqBlock.f, if_true, Option.bind_some]
    rw [w64 (by omega) (by omega), show ((i : Int) + 1) = ((i + 1 : Nat) : Int) by omega]
    exact ih k (i + 1) (by omega) (by omega)
theorem eqBolts {l0 : List Int} {l1 : List S56} {k : Nat} (h0 : l0.length ≤ 2000000) (hl : l1.length ≤ 2000000) (hk : l0.length + l1.length < k) : laws_eqBolts.f k l0 l1 l0 l1 = some true := by
  unfold laws_eqBolts.f laws_eqBlockS.f
  rw [eqIntS (by omega) (by omega)]
  have := eqBlockS_l0 (a := l1) hl l1.length k 0 (by omega) (by omega)
  have h' : laws_eqBlockS.l0 k l1 l1 0 = some true := this
  simp [h']
theorem szBolts (l0 : List Int) (l1 : List S61) (h0 : l0.length ≤ maxLen) (h1 : l1.length ≤ maxLen) : ∃ t, laws_szBolts.f l0 l1 1048576 = some t ∧ (t < 0 ∨ (0 ≤ t ∧ l0.length + l1.length ≤ 1048576)) := by
  unfold maxLen at h0 h1
  unfold laws_szBolts.f laws_szIntS.f laws_szBlockS.f
  rw [w64 (x := 1048576 - (l0.length : Int)) (by omega) (by omega)]
  by_cases c1 : 1048576 - (l0.length : Int) < 0
  · rw [if_pos c1]
    exact ⟨-1, rfl, .inl (by omega)⟩
  · rw [if_neg c1]
    simp only [Option.bind_some]
    rw [if_neg c1, w64 (by omega) (by omega)]
    by_cases c2 : 1048576 - (l0.length : Int) - (l1.length : Int) < 0
    · rw [if_pos c2]
      exact ⟨-1, rfl, .inl (by omega)⟩
    · rw [if_neg c2]
      simp only [Option.bind_some]
      rw [if_neg c2]
      exact ⟨_, rfl, .inr ⟨by omega, by omega⟩⟩

/-- bolts that are some: places and blocks are digits -/
theorem gd_facts {l0 : List Int} {l1 : List S56} (h : gd l0 l1 = true) : (1 ≤ l0.length ∧ l0.length ≤ 6) ∧ (∀ x ∈ l0, 2 ≤ x ∧ x ≤ 5) ∧ l1.length ≤ 40 ∧ ∀ x ∈ l1, ob l0 x = true := by
  unfold gd at h
  simp only [Bool.and_eq_true, decide_eq_true_eq, List.all_eq_true] at h
  obtain ⟨h1, h2, h3, h4, h5⟩ := h
  exact ⟨by omega, h2, by omega, h5⟩
theorem rd_mem {l : List Int} {i : Int} (h : 0 ≤ i ∧ i < (l.length : Int)) : rd l i ∈ l := by
  obtain ⟨n, rfl⟩ := Int.eq_ofNat_of_zero_le h.1
  have hn : n < l.length := by omega
  rw [rd_nat (List.getElem?_eq_getElem hn)]
  exact List.getElem_mem _
theorem ob_facts {l0 : List Int} (hl : l0.length ≤ 6) (hp : ∀ x ∈ l0, 2 ≤ x ∧ x ≤ 5) {x : S56} (h : ob l0 x = true) :
    (0 ≤ x.f0 ∧ x.f0 < (l0.length : Int)) ∧ (0 ≤ x.f2 ∧ x.f2 < (l0.length : Int)) ∧ x.f0 ≠ x.f2 ∧ (0 ≤ x.f1 ∧ x.f1 ≤ rd l0 x.f0 - 1) ∧ (0 ≤ x.f3 ∧ x.f3 ≤ rd l0 x.f2 - 1) := by
  unfold ob at h
  simp only [Bool.and_eq_true, decide_eq_true_eq, Bool.not_eq_true', decide_eq_false_iff_not] at h
  obtain ⟨h1, h2, h3, h4, h5⟩ := h
  have m0 := hp _ (rd_mem (l := l0) (i := x.f0) ⟨h1.1, by omega⟩)
  have m2 := hp _ (rd_mem (l := l0) (i := x.f2) ⟨h2.1, by omega⟩)
  rw [w64 (by omega) (by omega)] at h4
  rw [w64 (by omega) (by omega)] at h5
  exact ⟨⟨h1.1, by omega⟩, ⟨h2.1, by omega⟩, h3, h4, h5⟩

/-- a text's sign is a place of a bolt -/
def okp (l0 : List Int) (a : ByteArray) (j : Nat) : Prop := 0 ≤ bt a (j : Int) - 48 ∧ bt a (j : Int) - 48 ≤ rd l0 (j : Int) - 1
/-- a block is met -/
def hit (a : ByteArray) (x : S56) : Bool := decide (bt a x.f0 - 48 = x.f1) && decide (bt a x.f2 - 48 = x.f3)
theorem okp_int {l0 : List Int} {a : ByteArray} (hs : ∀ j, j < l0.length → okp l0 a j) {i : Int} (h : 0 ≤ i ∧ i < (l0.length : Int)) : 0 ≤ bt a i - 48 ∧ bt a i - 48 ≤ rd l0 i - 1 := by
  obtain ⟨n, rfl⟩ := Int.eq_ofNat_of_zero_le h.1
  exact hs n (by omega)
theorem hitB_val {l0 : List Int} {a : ByteArray} (hl : l0.length ≤ 6) (hp : ∀ x ∈ l0, 2 ≤ x ∧ x ≤ 5) (h : (a.size : Int) = (l0.length : Int)) (hs : ∀ j, j < l0.length → okp l0 a j) {x : S56} (ho : ob l0 x = true) : hitB a x = some (hit a x) := by
  obtain ⟨h1, h2, _, _, _⟩ := ob_facts hl hp ho
  have r0 := bt_range a x.f0
  have r2 := bt_range a x.f2
  unfold hitB hit
  rw [if_pos ⟨h1.1, by omega⟩, w64 (x := bt a x.f0) (by omega) (by omega), w64 (x := bt a x.f0 - 48) (by omega) (by omega), w64 (x := bt a x.f2) (by omega) (by omega), w64 (x := bt a x.f2 - 48) (by omega) (by omega)]
  by_cases q : bt a x.f0 - 48 = x.f1
  · rw [if_pos q, if_pos ⟨h2.1, by omega⟩, decide_eq_true q]; rfl
  · rw [if_neg q, decide_eq_false q]; rfl
theorem boFree_l0 {l0 : List Int} {l1 : List S56} {a : ByteArray} (hll : l1.length ≤ 2000000) (hl : l0.length ≤ 6) (hp : ∀ x ∈ l0, 2 ≤ x ∧ x ≤ 5) (h : (a.size : Int) = (l0.length : Int)) (hs : ∀ j, j < l0.length → okp l0 a j) (r : List S56) : ∀ (k i : Nat), l1.drop i = r → (∀ x ∈ r, ob l0 x = true) → r.length < k →
    spec_boFree.l0 k a l1 (l1.length : Int) (i : Int) = some (!(r.any (hit a))) := by
  induction r with
  | nil =>
    intro k i hd _ hk
    obtain ⟨k, rfl⟩ : ∃ m, k = m + 1 := ⟨k - 1, by omega⟩
    have : l1.length ≤ i := List.drop_eq_nil_iff.1 hd
    rw [spec_boFree.l0, if_neg (by omega)]; rfl
  | cons x r ih =>
    intro k i hd ho hk
    obtain ⟨k, rfl⟩ : ∃ m, k = m + 1 := ⟨k - 1, by omega⟩
    obtain ⟨h2, h3, h4⟩ := getElem?_drop_cons hd
    obtain ⟨g1, g2, _, _, _⟩ := ob_facts hl hp (ho x (by simp))
    have r0 := okp_int hs g1
    have r2 := okp_int hs g2
    have m0 := hp _ (rd_mem (l := l0) (i := x.f0) g1)
    have m2 := hp _ (rd_mem (l := l0) (i := x.f2) g2)
    have e0 : (bt a x.f0 - 48) % 256 = bt a x.f0 - 48 := by omega
    have e2 : (bt a x.f2 - 48) % 256 = bt a x.f2 - 48 := by omega
    have ei : Aside0 (wrap64 ((i : Int) + 1) = ((i + 1 : Nat) : Int)) := ⟨by rw [w64 (by omega) (by omega)]; omega⟩
    have hnext := ih k (i + 1) h3 (fun y hy => ho y (by simp [hy])) (by simp at hk; omega)
    rw [spec_boFree.l0, if_pos (by omega), if_pos (by omega), if_pos (by omega), rdT h2, if_pos g1.1, if_pos (show x.f0 < (a.size : Int) by omega), if_pos g2.1, if_pos (show x.f2 < (a.size : Int) by omega), e0, e2, ei.out, hnext, List.any_cons]
    unfold hit
    by_cases q1 : bt a x.f0 - 48 = x.f1
    · rw [if_pos q1, decide_eq_true q1]
      by_cases q2 : bt a x.f2 - 48 = x.f3
      · rw [if_pos q2, decide_eq_true q2]; rfl
      · rw [if_neg q2, decide_eq_false q2]; rfl
    · rw [if_neg q1, decide_eq_false q1]; rfl
theorem allowed {l0 : List Int} {l1 : List S56} {a : ByteArray} (hl : l0.length ≤ 6) (hp : ∀ x ∈ l0, 2 ≤ x ∧ x ≤ 5) (h : (a.size : Int) = (l0.length : Int)) (hs : ∀ j, j < l0.length → okp l0 a j) (ho : ∀ x ∈ l1, ob l0 x = true) : impl_Bolts_allowed.f l0 l1 a = some (!(l1.any (hit a))) := by
  have e1 : (l1.all fun x => (hitB a x).isSome) = true := by
    rw [List.all_eq_true]
    intro x hx
    rw [hitB_val hl hp h hs (ho x hx)]; rfl
  have e2 : (l1.any fun x => (hitB a x).getD false) = l1.any (hit a) := by
    apply Bool.eq_iff_iff.2
    rw [List.any_eq_true, List.any_eq_true]
    constructor
    · rintro ⟨x, hx, hh⟩
      rw [hitB_val hl hp h hs (ho x hx)] at hh
      exact ⟨x, hx, hh⟩
    · rintro ⟨x, hx, hh⟩
      refine ⟨x, hx, ?_⟩
      rw [hitB_val hl hp h hs (ho x hx)]; exact hh
  unfold impl_Bolts_allowed.f
  rw [if_pos e1, e2]

end Go.Proofs.Ytpbgloppcenljaa.Pure
