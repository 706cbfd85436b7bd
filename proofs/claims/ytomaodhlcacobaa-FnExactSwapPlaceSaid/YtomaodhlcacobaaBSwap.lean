/- What the printed orders by swaps are. -/
import Derived.Test.YtomaodhlcacobaaBx1
import Derived.Test.YtomaodhlcacobaaBx2
import Derived.Test.YtomaodhlcacobaaBx3
import Derived.Test.YtomaodhlcacobaaM1
import Derived.Test.YtomaodhlcacobaaMS
set_option linter.unusedVariables false
set_option linter.unusedSimpArgs false
namespace Go.Proofs.Ytomaodhlcacobaa.Pure
open Go.RowKit Go.Proofs.Ytomaodhlcacobaa.B Go.Proofs.YtomaodhlcacobaaW.PrintWords Go.Proofs.YtomaodhlcacobaaW.PrintLast Go.Proofs.YtomaodhlcacobaaW.PrintMore

theorem wf64 {a : Int} (h : (Lit.int .i64 a).wf = true) : -9223372036854775808 ≤ a ∧ a ≤ 9223372036854775807 := by
  simpa [Lit.wf, IntKind.min, IntKind.max, IntKind.bits, IntKind.signed] using h
theorem w64 {x : Int} (h0 : -9223372036854775808 ≤ x) (h1 : x ≤ 9223372036854775807) : wrap64 x = x := by unfold wrap64; omega
theorem tdiv2 {x : Int} (h : 0 ≤ x) (h1 : x ≤ 9223372036854775807) : wrap64 (Int.tdiv x 2) = x / 2 := by
  rw [Int.tdiv_eq_ediv_of_nonneg h]; exact w64 (by omega) (by omega)
theorem and1 {x : Int} (h0 : 0 ≤ x) (h1 : x ≤ 9223372036854775807) : Go.bits .and .i64 x 1 = x % 2 := by
  have := Go.bits_mask .i64 63 (by decide) (fun n h0 h1 => by rw [IntKind.wrap_i64]; omega) 1 (by decide) x h0 (by omega)
  simpa using this
theorem shr_eq {x y : Int} (h : y ≤ 64) : shr .i64 x y = x / 2 ^ y.toNat := (shr_small rfl h).symm
theorem shl_one {y : Nat} (h : y ≤ 62) : shl .i64 1 (y : Int) = ((2 ^ y : Nat) : Int) := by
  have e := shl_small (k := .i64) (x := 1) (y := (y : Int)) rfl (by simp [IntKind.bits]; omega)
  rw [← e, Int.toNat_natCast, IntKind.wrap_i64]
  have hp : 2 ^ y ≤ 2 ^ 62 := Nat.pow_le_pow_right (by decide) h
  have hc : ((2 ^ y : Nat) : Int) = 2 ^ y := by simp
  rw [hc] at *
  have h2 : (2 : Int) ^ y ≤ 4611686018427387904 := by
    rw [← hc]; have : ((2 ^ y : Nat) : Int) ≤ ((2 ^ 62 : Nat) : Int) := by exact_mod_cast hp
    simpa using this
  have h3 : (0 : Int) ≤ 2 ^ y := by rw [← hc]; exact Int.natCast_nonneg _
  omega
theorem xor_nat {a b : Nat} (ha : a < 2 ^ 63) (hb : b < 2 ^ 63) : Go.bits .xor .i64 (a : Int) (b : Int) = ((a ^^^ b : Nat) : Int) := by
  have hp : a % 2 ^ 64 = a := Nat.mod_eq_of_lt (Nat.lt_trans ha (by decide))
  have hq : b % 2 ^ 64 = b := Nat.mod_eq_of_lt (Nat.lt_trans hb (by decide))
  have hx : a ^^^ b < 2 ^ 63 := Nat.xor_lt_two_pow ha hb
  have e : Go.bits .xor .i64 (a : Int) (b : Int) = IntKind.i64.wrap (((a % 2 ^ 64) ^^^ (b % 2 ^ 64) : Nat) : Int) := by
    simp only [Go.bits, BitVec.ofInt_natCast, BitVec.toNat_xor, BitVec.toNat_ofNat]; rfl
  rw [e, hp, hq, IntKind.wrap_i64]; omega
theorem or_nat {a b : Nat} (ha : a < 2 ^ 63) (hb : b < 2 ^ 63) : Go.bits .or .i64 (a : Int) (b : Int) = ((a ||| b : Nat) : Int) :=
  (Go.bits_nat .i64 63 (by decide) (fun n h0 h1 => by rw [IntKind.wrap_i64]; omega) a b ha hb).2
theorem shr_nat {a y : Nat} (h : y ≤ 64) : shr .i64 (a : Int) (y : Int) = ((a / 2 ^ y : Nat) : Int) := by
  rw [shr_eq (by omega), Int.toNat_natCast]; simp
theorem and_shr {a y : Nat} (ha : a < 2 ^ 63) (h : y ≤ 64) : Go.bits .and .i64 (shr .i64 (a : Int) (y : Int)) 1 = ((a / 2 ^ y % 2 : Nat) : Int) := by
  have := Nat.div_le_self a (2 ^ y)
  rw [shr_nat h]
  generalize a / 2 ^ y = q at *
  rw [and1 (by omega) (by omega)]; omega
/-- a number reflected -/
theorem gray_int {n : Nat} (h : n < 2 ^ 63) : Go.bits .xor .i64 (n : Int) (wrap64 (Int.tdiv (n : Int) 2)) = (M.gray n : Int) := by
  rw [tdiv2 (by omega) (by omega), show ((n : Int) / 2) = ((n / 2 : Nat) : Int) by omega, xor_nat h (by omega)]; rfl
theorem gray_int' {n : Nat} (h : n < 2 ^ 63) : Go.bits .xor .i64 (n : Int) ((n : Int) / 2) = (M.gray n : Int) := by
  rw [show ((n : Int) / 2) = ((n / 2 : Nat) : Int) by omega, xor_nat h (by omega)]; rfl
/-! texts -/
def tx (l : List UInt8) : ByteArray := ⟨l.toArray⟩
theorem tx_data (l : List UInt8) : (tx l).data.toList = l := by simp [tx]
theorem tx_of (s : ByteArray) : s = tx s.data.toList := by simp [tx]
theorem tx_toList (l : List UInt8) : (tx l).toList = l := by rw [ByteArray.toList_eq, tx_data]
theorem tx_size (l : List UInt8) : (tx l).size = l.length := by simp [tx, ByteArray.size]
theorem tx_app (a b : List UInt8) : tx a ++ tx b = tx (a ++ b) := by
  apply ByteArray.ext
  simp [tx, ByteArray.data_append]
theorem tx_inj {a b : List UInt8} (h : tx a = tx b) : a = b := by rw [← tx_data a, ← tx_data b, h]
theorem bt_tx (l : List UInt8) (i : Nat) : bt (tx l) (i : Int) = ((l.getD i 0).toNat : Int) := by
  unfold bt
  rw [Int.toNat_natCast]
  by_cases h : i < (tx l).size
  · rw [dif_pos h]
    have h' : i < l.length := by rwa [tx_size] at h
    congr 1
    show ((tx l).data[i]'h).toNat = _
    simp [tx, h', List.getD]
  · rw [dif_neg h]
    have h' : ¬ i < l.length := by rwa [tx_size] at h
    rw [List.getD, List.getElem?_eq_none (by omega)]; rfl
theorem tx_nil : (⟨#[]⟩ : ByteArray) = tx [] := rfl
/-! signs -/
def sg (b : Bool) : UInt8 := if b then 49 else 48
def sb (bs : List Bool) : ByteArray := tx (bs.map sg)
theorem sb_size (bs : List Bool) : (sb bs).size = bs.length := by rw [sb, tx_size, List.length_map]
theorem sg_inj : ∀ {a b : Bool}, sg a = sg b → a = b
  | true, true, _ => rfl
  | false, false, _ => rfl
  | true, false, h => by simp [sg] at h
  | false, true, h => by simp [sg] at h
theorem map_sg_inj : ∀ {a b : List Bool}, a.map sg = b.map sg → a = b
  | [], [], _ => rfl
  | [], _ :: _, h => by simp at h
  | _ :: _, [], h => by simp at h
  | x :: a, y :: b, h => by
    simp only [List.map_cons, List.cons.injEq] at h
    rw [sg_inj h.1, map_sg_inj h.2]
theorem sb_inj {a b : List Bool} (h : sb a = sb b) : a = b := map_sg_inj (tx_inj h)
theorem sb_eq {a b : List Bool} : sb a = sb b ↔ a = b := ⟨sb_inj, fun h => by rw [h]⟩
theorem sb_toList (bs : List Bool) : (sb bs).toList = bs.map sg := tx_toList _
theorem bt_sb {bs : List Bool} {i : Nat} {b : Bool} (h : bs[i]? = some b) : bt (sb bs) (i : Int) = if b then 49 else 48 := by
  rw [sb, bt_tx, List.getD, List.getElem?_map, h]
  cases b <;> rfl

/-! lists of numbers -/
theorem rd_nat {l : List Int} {i : Nat} {x : Int} (h : l[i]? = some x) : rd l (i : Int) = x := by
  unfold rd; rw [Int.toNat_natCast, List.getD, h]; rfl
def mk : Int → Nat → List Int
  | _, 0 => []
  | m, d + 1 => m :: mk (m + 1) d
theorem mk_length (m : Int) (d : Nat) : (mk m d).length = d := by
  induction d generalizing m with
  | zero => rfl
  | succ d ih => simp [mk, ih]
theorem getElem?_drop_cons {α : Type} {l r : List α} {i : Nat} {x : α} (h : l.drop i = x :: r) : l[i]? = some x ∧ l.drop (i + 1) = r ∧ i < l.length := by
  have h1 : (l.drop i)[0]? = some x := by rw [h]; rfl
  rw [List.getElem?_drop, Nat.add_zero] at h1
  refine ⟨h1, ?_, (List.getElem?_eq_some_iff.1 h1).1⟩
  rw [← List.drop_drop, h]; rfl
theorem drop_cons {α : Type} {l : List α} {i : Nat} (h : i < l.length) : ∃ x r, l.drop i = x :: r := ⟨l[i], l.drop (i + 1), List.drop_eq_getElem_cons h⟩

theorem eqIntS_l0 {a b : List Int} (hl : a.length = b.length) (hb : a.length ≤ 281474976710656) (d : Nat) : ∀ (k i : Nat), i + d = a.length → d < k → a.take i = b.take i →
    laws_eqIntS.l0 k a b (i : Int) = some (decide (a = b)) := by
  induction d with
  | zero =>
    intro k i hi hk ht
    obtain ⟨k, rfl⟩ : ∃ m, k = m + 1 := ⟨k - 1, by omega⟩
    simp only [laws_eqIntS.l0]
    rw [if_neg (by omega)]
    rw [List.take_of_length_le (by omega), List.take_of_length_le (by omega)] at ht
    simp [ht]
  | succ d ih =>
    intro k i hi hk ht
    obtain ⟨k, rfl⟩ : ∃ m, k = m + 1 := ⟨k - 1, by omega⟩
    have ha : a[i]? = some a[i] := List.getElem?_eq_getElem (by omega)
    have hb' : b[i]? = some b[i] := List.getElem?_eq_getElem (by omega)
    simp only [laws_eqIntS.l0]
    rw [if_pos (by omega), if_pos (by omega), if_pos (by omega), rd_nat ha, rd_nat hb', w64 (by omega) (by omega)]
    by_cases e : a[i] = b[i]
    · rw [if_pos e, show ((i : Int) + 1) = ((i + 1 : Nat) : Int) by omega]
      exact ih k (i + 1) (by omega) (by omega) (by rw [List.take_add_one, List.take_add_one, ht, ha, hb', e])
    · rw [if_neg e]
      have : a ≠ b := by rintro rfl; exact e rfl
      simp [this]
theorem eqIntS {a b : List Int} {k : Nat} (ha : a.length ≤ 281474976710656) (hk : a.length < k) : laws_eqIntS.f k a b = some (decide (a = b)) := by
  unfold laws_eqIntS.f
  by_cases e : a.length = b.length
  · rw [if_pos (by omega)]
    exact eqIntS_l0 e ha a.length k 0 (by omega) hk (by simp)
  · rw [if_neg (by omega)]
    have : a ≠ b := by rintro rfl; exact e rfl
    simp [this]
theorem markIntS_l0 (d : Nat) : ∀ (k i : Nat) (x : List Int) (m : Int), i + d = x.length → x.length ≤ 281474976710656 → 0 ≤ m → m + d ≤ 4000000000000000000 → d < k →
    laws_markIntS.l0 k x m (i : Int) = some (m + d, x.take i ++ mk m d) := by
  induction d with
  | zero =>
    intro k i x m hi hx h0 h1 hk
    obtain ⟨k, rfl⟩ : ∃ m, k = m + 1 := ⟨k - 1, by omega⟩
    simp only [laws_markIntS.l0]
    rw [if_neg (by omega), List.take_of_length_le (by omega)]
    simp [mk]
  | succ d ih =>
    intro k i x m hi hx h0 h1 hk
    obtain ⟨k, rfl⟩ : ∃ m, k = m + 1 := ⟨k - 1, by omega⟩
    simp only [laws_markIntS.l0]
    rw [if_pos (by omega), if_pos (by omega), w64 (by omega) (by omega), w64 (by omega) (by omega), Int.toNat_natCast, show ((i : Int) + 1) = ((i + 1 : Nat) : Int) by omega]
    rw [ih k (i + 1) (x.set i m) (m + 1) (by simp; omega) (by simpa using hx) (by omega) (by omega) (by omega)]
    congr 2
    · omega
    · rw [mk, List.take_add_one, List.take_set_of_le (Nat.le_refl i), List.getElem?_set_self (by omega)]; simp
theorem markIntS {l : List Int} {k : Nat} (hl : l.length ≤ 281474976710656) (hk : l.length < k) : laws_markIntS.f k l 1 = some (1 + (l.length : Int), mk 1 l.length) := by
  unfold laws_markIntS.f
  have := markIntS_l0 l.length k 0 l 1 (by omega) hl (by omega) (by omega) hk
  simpa using this
theorem heldIntS_l0 (d : Nat) : ∀ (k i : Nat) (x : List Int) (m : Int), i + d = x.length → x.drop i = mk m d → x.length ≤ 281474976710656 → 0 ≤ m → m + d ≤ 4000000000000000000 → d < k →
    laws_heldIntS.l0 k x m (i : Int) = some (m + d) := by
  induction d with
  | zero =>
    intro k i x m hi hd hx h0 h1 hk
    obtain ⟨k, rfl⟩ : ∃ m, k = m + 1 := ⟨k - 1, by omega⟩
    simp only [laws_heldIntS.l0]
    rw [if_neg (by omega)]; simp
  | succ d ih =>
    intro k i x m hi hd hx h0 h1 hk
    obtain ⟨k, rfl⟩ : ∃ m, k = m + 1 := ⟨k - 1, by omega⟩
    obtain ⟨h2, h3, h4⟩ := getElem?_drop_cons hd
    simp only [laws_heldIntS.l0]
    rw [if_pos (by omega), if_pos (by omega), rd_nat h2, if_pos rfl, w64 (by omega) (by omega), w64 (by omega) (by omega), show ((i : Int) + 1) = ((i + 1 : Nat) : Int) by omega]
    rw [ih k (i + 1) x (m + 1) (by omega) h3 hx (by omega) (by omega) (by omega)]
    congr 1; omega
theorem heldIntS {n k : Nat} (hl : n ≤ 281474976710656) (hk : n < k) : laws_heldIntS.f k (mk 1 n) 1 = some (1 + (n : Int)) := by
  unfold laws_heldIntS.f
  exact heldIntS_l0 n k 0 (mk 1 n) 1 (by simp [mk_length]) rfl (by simpa [mk_length] using hl) (by omega) (by omega) hk

theorem in_dec (n a b : Int) : spec_l1In.f n a b = some (decide (a ≤ n ∧ n ≤ b)) := by
  unfold spec_l1In.f
  by_cases h : n ≥ a
  · rw [if_pos h]; have h' : a ≤ n := h; simp [h']
  · rw [if_neg h]; have h' : ¬ a ≤ n := h; simp [h']
theorem in_val (n a b : Int) : impl_in.f n a b = some (decide (a ≤ n ∧ n ≤ b)) := by
  unfold impl_in.f
  by_cases h : n ≥ a
  · rw [if_pos h]; have h' : a ≤ n := h; simp [h']
  · rw [if_neg h]; have h' : ¬ a ≤ n := h; simp [h']
theorem fact_small : ∀ j, j < 11 → M.fact j ≤ 3628800 := by decide

/-! the order by swaps: both printed functions are M.sw -/
theorem swapped_eq : ∀ (k : Nat) (a0 a1 : Int), impl_swapped.f k a0 a1 = spec_nuSwapped.f k a0 a1
  | 0, _, _ => rfl
  | k + 1, a0, a1 => by
    rw [impl_swapped.f, spec_nuSwapped.f, swapped_eq k]
    have e : swAtI a0 a1 = swAt a0 a1 := rfl
    rw [e]
    simp only [List.append_assoc]
theorem swAt_nat (s r : Nat) (hs : s < 100) (hr : r < 4000000000000000000) : swAt ((s + 1 : Nat) : Int) (r : Int) = (M.spl s r : Int) := by
  have h1 : Int.tdiv (r : Int) ((s + 1 : Nat) : Int) = ((r / (s + 1) : Nat) : Int) := (Int.ofNat_tdiv _ _).symm
  have h2 : Int.tmod (r : Int) ((s + 1 : Nat) : Int) = ((r % (s + 1) : Nat) : Int) := (Int.ofNat_tmod _ _).symm
  have h3 : r / (s + 1) ≤ r := Nat.div_le_self _ _
  have h4 := M.modlt r s
  unfold swAt M.spl
  obtain ⟨q, hq⟩ : ∃ q, r / (s + 1) = q := ⟨_, rfl⟩
  obtain ⟨m, hm⟩ : ∃ m, r % (s + 1) = m := ⟨_, rfl⟩
  rw [h1, h2, hq, hm]
  rw [hq] at h3
  rw [hm] at h4
  clear h1 h2 hq hm
  have h5 : Int.tmod (q : Int) 2 = ((q % 2 : Nat) : Int) := (Int.ofNat_tmod q 2).symm
  rw [w64 (by omega) (by omega), h5]
  by_cases c : q % 2 = 0
  · rw [if_pos (by omega), if_pos c, show (((s + 1 : Nat) : Int) - 1) = (s : Int) by omega, w64 (x := (s : Int)) (by omega) (by omega), w64 (by omega) (by omega)]
    omega
  · rw [if_neg (by omega), if_neg c]
theorem nuSwapped : ∀ (s r k : Nat), s < 100 → r < 4000000000000000000 → s < k → spec_nuSwapped.f k (s : Int) (r : Int) = some ((M.sw s r).map Int.ofNat)
  | 0, r, k, _, _, hk => by
    obtain ⟨k, rfl⟩ : ∃ m, k = m + 1 := ⟨k - 1, by omega⟩
    rw [spec_nuSwapped.f, if_pos (show ((0 : Nat) : Int) = 0 from rfl)]; rfl
  | s + 1, r, k, hs, hr, hk => by
    obtain ⟨k, rfl⟩ : ∃ m, k = m + 1 := ⟨k - 1, by omega⟩
    have h3 : r / (s + 1) ≤ r := Nat.div_le_self _ _
    have e1 : wrap64 (((s + 1 : Nat) : Int) - 1) = (s : Int) := by rw [w64 (by omega) (by omega)]; omega
    have e2 : wrap64 (Int.tdiv (r : Int) ((s + 1 : Nat) : Int)) = ((r / (s + 1) : Nat) : Int) := by
      rw [show Int.tdiv (r : Int) ((s + 1 : Nat) : Int) = ((r / (s + 1) : Nat) : Int) from (Int.ofNat_tdiv _ _).symm]
      generalize r / (s + 1) = q at h3 ⊢
      exact w64 (by omega) (by omega)
    have e3 := nuSwapped s (r / (s + 1)) k (by omega) (by generalize r / (s + 1) = q at h3 ⊢; omega) (by omega)
    rw [spec_nuSwapped.f, if_neg (by omega), swAt_nat s r (by omega) hr, e1, e2, e3]
    have h5 := M.spl_le s r
    simp only [Option.bind_some, List.length_map, M.sw_length, Int.toNat_natCast]
    rw [if_pos (by omega), if_pos (by omega), if_pos (by omega), M.sw, M.ins]
    simp [List.map_take, List.map_drop]
theorem up_some {α : Type} {f : Nat → Option α} (h : ∀ k, LeO (f k) (f (k + 1))) {m : Nat} {v : α} (hm : f m = some v) : ∀ d, f (m + d) = some v
  | 0 => hm
  | d + 1 => h (m + d) _ (up_some h hm d)
theorem up_to {α : Type} {f : Nat → Option α} (h : ∀ k, LeO (f k) (f (k + 1))) {m k : Nat} {v : α} (hm : f m = some v) (hk : m ≤ k) : f k = some v := by
  have := up_some h hm (k - m)
  rwa [show m + (k - m) = k by omega] at this
theorem orders12 : ∀ s : Nat, s < 11 → impl_orders.f 12 (s : Int) = some (M.fact s : Int) := by decide +kernel
theorem lists12 : ∀ s : Nat, s < 11 → spec_nuLists.f 12 (s : Int) = some (M.fact s : Int) := by decide +kernel
theorem orders {s k : Nat} (hs : s < 11) (hk : 12 ≤ k) : impl_orders.f k (s : Int) = some (M.fact s : Int) := up_to (fun k => impl_orders.mono (s : Int) k) (orders12 s hs) hk
theorem lists {s k : Nat} (hs : s < 11) (hk : 12 ≤ k) : spec_nuLists.f k (s : Int) = some (M.fact s : Int) := up_to (fun k => spec_nuLists.mono (s : Int) k) (lists12 s hs) hk
theorem fact_bound {s : Nat} (hs : s < 11) : M.fact s ≤ 3628800 := fact_small s hs
/-- the guards of both functions -/
theorem isSwapped_val {a0 a1 : Int} {k : Nat} (hk : 12 ≤ k) (b : Bool) (hb : b = true ↔ ∃ s r : Nat, a0 = s ∧ a1 = r ∧ 1 ≤ s ∧ s ≤ 10 ∧ r < M.fact s) : impl_isSwapped.f k a0 a1 = some b := by
  unfold impl_isSwapped.f
  rw [in_val]
  by_cases h : 1 ≤ a0 ∧ a0 ≤ 10
  · obtain ⟨s, rfl⟩ := Int.eq_ofNat_of_zero_le (show 0 ≤ a0 by omega)
    rw [decide_eq_true h]
    have h1 := fact_bound (s := s) (by omega)
    simp only [Option.bind_some, if_true]
    rw [orders (by omega) hk]
    simp only [Option.bind_some]
    rw [w64 (by omega) (by omega), in_val]
    simp only [Option.bind_some]
    congr 1
    rw [Bool.eq_iff_iff, hb, decide_eq_true_iff]
    constructor
    · rintro ⟨h2, h3⟩
      obtain ⟨r, rfl⟩ := Int.eq_ofNat_of_zero_le h2
      exact ⟨s, r, rfl, rfl, by omega, by omega, by omega⟩
    · rintro ⟨s', r, h2, rfl, h3, h4, h5⟩
      have : s' = s := by omega
      subst this
      omega
  · rw [decide_eq_false h]
    simp only [Option.bind_some, Bool.false_eq_true, if_false]
    congr 1
    symm
    rw [Bool.eq_false_iff]
    intro hh
    obtain ⟨s, r, rfl, rfl, h2, h3, _⟩ := hb.1 hh
    exact h (by omega)

end Go.Proofs.Ytomaodhlcacobaa.Pure
