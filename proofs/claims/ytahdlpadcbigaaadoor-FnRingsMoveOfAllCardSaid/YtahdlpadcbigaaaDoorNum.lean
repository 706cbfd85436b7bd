/- Numbers and texts: how the printed words read on natural numbers and lists; no statement of the program. -/
import Derived.Test.YtahdlpadcbigaaaDoorM1
import Derived.Test.YtahdlpadcbigaaaDoorAx0
set_option linter.unusedVariables false
set_option linter.unusedSimpArgs false
namespace Go.Proofs.YtahdlpadcbigaaaDoor.Pure
open Go.RowKit Go.Proofs.YtahdlpadcbigaaaDoor.A Go.Proofs.YtahdlpadcbigaaaDoorW.PrintWords Go.Proofs.YtahdlpadcbigaaaDoorW.PrintLast Go.Proofs.YtahdlpadcbigaaaDoorW.PrintMore

theorem wf64 {a : Int} (h : (Lit.int .i64 a).wf = true) : -9223372036854775808 ≤ a ∧ a ≤ 9223372036854775807 := by
  simpa [Lit.wf, IntKind.min, IntKind.max, IntKind.bits, IntKind.signed] using h
theorem w64 {x : Int} (h0 : -9223372036854775808 ≤ x) (h1 : x ≤ 9223372036854775807) : wrap64 x = x := by unfold wrap64; omega
theorem tdiv2 {x : Int} (h : 0 ≤ x) (h1 : x ≤ 9223372036854775807) : wrap64 (Int.tdiv x 2) = x / 2 := by
  rw [Int.tdiv_eq_ediv_of_nonneg h]; exact w64 (by omega) (by omega)
theorem and1 {x : Int} (h0 : 0 ≤ x) (h1 : x ≤ 9223372036854775807) : Go.bits .and .i64 x 1 = x % 2 := by
  have := Go.bits_mask .i64 63 (by decide) (fun n h0 h1 => by rw [IntKind.wrap_i64]; omega) 1 (by decide) x h0 (by omega)
  simpa using this
theorem shr_eq {x y : Int} (h : y ≤ 64) : shr .i64 x y = x / 2 ^ y.toNat := (shr_small rfl h).symm
theorem shl_one {y : Nat} (h : y ≤ 62) : shl .i64 1 (y : Int) = ((2 ^ y : Nat) : Int) := by
  have e := shl_small (k := .i64) (x := 1) (y := (y : Int)) rfl (by simp [IntKind.bits]; omega)
  rw [← e, Int.toNat_natCast, IntKind.wrap_i64]
  have hp : 2 ^ y ≤ 2 ^ 62 := Nat.pow_le_pow_right (by decide) h
  have hc : ((2 ^ y : Nat) : Int) = 2 ^ y := by simp
  rw [hc] at *
  have h2 : (2 : Int) ^ y ≤ 4611686018427387904 := by
    rw [← hc]; have : ((2 ^ y : Nat) : Int) ≤ ((2 ^ 62 : Nat) : Int) := by exact_mod_cast hp
    simpa using this
  have h3 : (0 : Int) ≤ 2 ^ y := by rw [← hc]; exact Int.natCast_nonneg _
  omega
theorem xor_nat {a b : Nat} (ha : a < 2 ^ 63) (hb : b < 2 ^ 63) : Go.bits .xor .i64 (a : Int) (b : Int) = ((a ^^^ b : Nat) : Int) := by
  have hp : a % 2 ^ 64 = a := Nat.mod_eq_of_lt (Nat.lt_trans ha (by decide))
  have hq : b % 2 ^ 64 = b := Nat.mod_eq_of_lt (Nat.lt_trans hb (by decide))
  have hx : a ^^^ b < 2 ^ 63 := Nat.xor_lt_two_pow ha hb
  have e : Go.bits .xor .i64 (a : Int) (b : Int) = IntKind.i64.wrap (((a % 2 ^ 64) ^^^ (b % 2 ^ 64) : Nat) : Int) := by
    simp only [Go.bits, BitVec.ofInt_natCast, BitVec.toNat_xor, BitVec.toNat_ofNat]; rfl
  rw [e, hp, hq, IntKind.wrap_i64]; omega
theorem or_nat {a b : Nat} (ha : a < 2 ^ 63) (hb : b < 2 ^ 63) : Go.bits .or .i64 (a : Int) (b : Int) = ((a ||| b : Nat) : Int) :=
  (Go.bits_nat .i64 63 (by decide) (fun n h0 h1 => by rw [IntKind.wrap_i64]; omega) a b ha hb).2
theorem shr_nat {a y : Nat} (h : y ≤ 64) : shr .i64 (a : Int) (y : Int) = ((a / 2 ^ y : Nat) : Int) := by
  rw [shr_eq (by omega), Int.toNat_natCast]; simp
theorem and_shr {a y : Nat} (ha : a < 2 ^ 63) (h : y ≤ 64) : Go.bits .and .i64 (shr .i64 (a : Int) (y : Int)) 1 = ((a / 2 ^ y % 2 : Nat) : Int) := by
  have := Nat.div_le_self a (2 ^ y)
  rw [shr_nat h]
  generalize a / 2 ^ y = q at *
  rw [and1 (by omega) (by omega)]; omega
/-- a number reflected -/
theorem gray_int {n : Nat} (h : n < 2 ^ 63) : Go.bits .xor .i64 (n : Int) (wrap64 (Int.tdiv (n : Int) 2)) = (M.gray n : Int) := by
  rw [tdiv2 (by omega) (by omega), show ((n : Int) / 2) = ((n / 2 : Nat) : Int) by omega, xor_nat h (by omega)]; rfl
theorem gray_int' {n : Nat} (h : n < 2 ^ 63) : Go.bits .xor .i64 (n : Int) ((n : Int) / 2) = (M.gray n : Int) := by
  rw [show ((n : Int) / 2) = ((n / 2 : Nat) : Int) by omega, xor_nat h (by omega)]; rfl
/-! texts -/
def tx (l : List UInt8) : ByteArray := ⟨l.toArray⟩
theorem tx_data (l : List UInt8) : (tx l).data.toList = l := by simp [tx]
theorem tx_of (s : ByteArray) : s = tx s.data.toList := by simp [tx]
theorem tx_toList (l : List UInt8) : (tx l).toList = l := by rw [ByteArray.toList_eq, tx_data]
theorem tx_size (l : List UInt8) : (tx l).size = l.length := by simp [tx, ByteArray.size]
theorem tx_app (a b : List UInt8) : tx a ++ tx b = tx (a ++ b) := by
  apply ByteArray.ext
  simp [tx, ByteArray.data_append]
theorem tx_inj {a b : List UInt8} (h : tx a = tx b) : a = b := by rw [← tx_data a, ← tx_data b, h]
theorem bt_tx (l : List UInt8) (i : Nat) : bt (tx l) (i : Int) = ((l.getD i 0).toNat : Int) := by
  unfold bt
  rw [Int.toNat_natCast]
  by_cases h : i < (tx l).size
  · rw [dif_pos h]
    have h' : i < l.length := by rwa [tx_size] at h
    congr 1
    show ((tx l).data[i]'h).toNat = _
    simp [tx, h', List.getD]
  · rw [dif_neg h]
    have h' : ¬ i < l.length := by rwa [tx_size] at h
    rw [List.getD, List.getElem?_eq_none (by omega)]; rfl
theorem tx_nil : (⟨#[]⟩ : ByteArray) = tx [] := rfl
/-! signs -/
def sg (b : Bool) : UInt8 := if b then 49 else 48
def sb (bs : List Bool) : ByteArray := tx (bs.map sg)
theorem sb_size (bs : List Bool) : (sb bs).size = bs.length := by rw [sb, tx_size, List.length_map]
theorem sg_inj : ∀ {a b : Bool}, sg a = sg b → a = b
  | true, true, _ => rfl
  | false, false, _ => rfl
  | true, false, h => by simp [sg] at h
  | false, true, h => by simp [sg] at h
theorem map_sg_inj : ∀ {a b : List Bool}, a.map sg = b.map sg → a = b
  | [], [], _ => rfl
  | [], _ :: _, h => by simp at h
  | _ :: _, [], h => by simp at h
  | x :: a, y :: b, h => by
    simp only [List.map_cons, List.cons.injEq] at h
    rw [sg_inj h.1, map_sg_inj h.2]
theorem sb_inj {a b : List Bool} (h : sb a = sb b) : a = b := map_sg_inj (tx_inj h)
theorem sb_eq {a b : List Bool} : sb a = sb b ↔ a = b := ⟨sb_inj, fun h => by rw [h]⟩
theorem sb_toList (bs : List Bool) : (sb bs).toList = bs.map sg := tx_toList _
theorem bt_sb {bs : List Bool} {i : Nat} {b : Bool} (h : bs[i]? = some b) : bt (sb bs) (i : Int) = if b then 49 else 48 := by
  rw [sb, bt_tx, List.getD, List.getElem?_map, h]
  cases b <;> rfl

/-! lists of numbers -/
theorem rd_nat {l : List Int} {i : Nat} {x : Int} (h : l[i]? = some x) : rd l (i : Int) = x := by
  unfold rd; rw [Int.toNat_natCast, List.getD, h]; rfl
def mk : Int → Nat → List Int
  | _, 0 => []
  | m, d + 1 => m :: mk (m + 1) d
theorem mk_length (m : Int) (d : Nat) : (mk m d).length = d := by
  induction d generalizing m with
  | zero => rfl
  | succ d ih => simp [mk, ih]
theorem getElem?_drop_cons {α : Type} {l r : List α} {i : Nat} {x : α} (h : l.drop i = x :: r) : l[i]? = some x ∧ l.drop (i + 1) = r ∧ i < l.length := by
  have h1 : (l.drop i)[0]? = some x := by rw [h]; rfl
  rw [List.getElem?_drop, Nat.add_zero] at h1
  refine ⟨h1, ?_, (List.getElem?_eq_some_iff.1 h1).1⟩
  rw [← List.drop_drop, h]; rfl
theorem drop_cons {α : Type} {l : List α} {i : Nat} (h : i < l.length) : ∃ x r, l.drop i = x :: r := ⟨l[i], l.drop (i + 1), List.drop_eq_getElem_cons h⟩

end Go.Proofs.YtahdlpadcbigaaaDoor.Pure
