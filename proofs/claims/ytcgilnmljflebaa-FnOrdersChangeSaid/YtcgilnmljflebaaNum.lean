/- Numbers and lists: how the printed words read on natural numbers and lists; no statement of the program. -/
import Derived.Test.YtcgilnmljflebaaM1
import Derived.Test.YtcgilnmljflebaaAx0
set_option linter.unusedVariables false
set_option linter.unusedSimpArgs false
namespace Go.Proofs.Ytcgilnmljflebaa.Pure
open Go.RowKit Go.Proofs.Ytcgilnmljflebaa.A Go.Proofs.YtcgilnmljflebaaW.PrintWords Go.Proofs.YtcgilnmljflebaaW.PrintLast Go.Proofs.YtcgilnmljflebaaW.PrintMore
theorem w64 {x : Int} (h0 : -9223372036854775808 ≤ x) (h1 : x ≤ 9223372036854775807) : wrap64 x = x := by unfold wrap64; omega
theorem tdiv2 {x : Int} (h : 0 ≤ x) (h1 : x ≤ 9223372036854775807) : wrap64 (Int.tdiv x 2) = x / 2 := by
  rw [Int.tdiv_eq_ediv_of_nonneg h]; exact w64 (by omega) (by omega)
theorem and1 {x : Int} (h0 : 0 ≤ x) (h1 : x ≤ 9223372036854775807) : Go.bits .and .i64 x 1 = x % 2 := by
  have := Go.bits_mask .i64 63 (by decide) (fun n h0 h1 => by rw [IntKind.wrap_i64]; omega) 1 (by decide) x h0 (by omega)
  simpa using this
theorem shr_eq {x y : Int} (h : y ≤ 64) : shr .i64 x y = x / 2 ^ y.toNat := (shr_small rfl h).symm
theorem shl_one {y : Nat} (h : y ≤ 62) : shl .i64 1 (y : Int) = ((2 ^ y : Nat) : Int) := by
  have e := shl_small (k := .i64) (x := 1) (y := (y : Int)) rfl (by simp [IntKind.bits]; omega)
  rw [← e, Int.toNat_natCast, IntKind.wrap_i64]
  have hp : 2 ^ y ≤ 2 ^ 62 := Nat.pow_le_pow_right (by decide) h
  have hc : ((2 ^ y : Nat) : Int) = 2 ^ y := by simp
  rw [hc] at *
  have h2 : (2 : Int) ^ y ≤ 4611686018427387904 := by
    rw [← hc]; have : ((2 ^ y : Nat) : Int) ≤ ((2 ^ 62 : Nat) : Int) := by exact_mod_cast hp
    simpa using this
  have h3 : (0 : Int) ≤ 2 ^ y := by rw [← hc]; exact Int.natCast_nonneg _
  omega
theorem xor_nat {a b : Nat} (ha : a < 2 ^ 63) (hb : b < 2 ^ 63) : Go.bits .xor .i64 (a : Int) (b : Int) = ((a ^^^ b : Nat) : Int) := by
  have hp : a % 2 ^ 64 = a := Nat.mod_eq_of_lt (Nat.lt_trans ha (by decide))
  have hq : b % 2 ^ 64 = b := Nat.mod_eq_of_lt (Nat.lt_trans hb (by decide))
  have hx : a ^^^ b < 2 ^ 63 := Nat.xor_lt_two_pow ha hb
  have e : Go.bits .xor .i64 (a : Int) (b : Int) = IntKind.i64.wrap (((a % 2 ^ 64) ^^^ (b % 2 ^ 64) : Nat) : Int) := by
    simp only [Go.bits, BitVec.ofInt_natCast, BitVec.toNat_xor, BitVec.toNat_ofNat]; rfl
  rw [e, hp, hq, IntKind.wrap_i64]; omega
theorem or_nat {a b : Nat} (ha : a < 2 ^ 63) (hb : b < 2 ^ 63) : Go.bits .or .i64 (a : Int) (b : Int) = ((a ||| b : Nat) : Int) :=
  (Go.bits_nat .i64 63 (by decide) (fun n h0 h1 => by rw [IntKind.wrap_i64]; omega) a b ha hb).2
theorem shr_nat {a y : Nat} (h : y ≤ 64) : shr .i64 (a : Int) (y : Int) = ((a / 2 ^ y : Nat) : Int) := by
  rw [shr_eq (by omega), Int.toNat_natCast]; simp
theorem and_shr {a y : Nat} (ha : a < 2 ^ 63) (h : y ≤ 64) : Go.bits .and .i64 (shr .i64 (a : Int) (y : Int)) 1 = ((a / 2 ^ y % 2 : Nat) : Int) := by
  have := Nat.div_le_self a (2 ^ y)
  rw [shr_nat h]
  generalize a / 2 ^ y = q at *
  rw [and1 (by omega) (by omega)]; omega
/-- a number reflected -/
theorem gray_int {n : Nat} (h : n < 2 ^ 63) : Go.bits .xor .i64 (n : Int) (wrap64 (Int.tdiv (n : Int) 2)) = (M.gray n : Int) := by
  rw [tdiv2 (by omega) (by omega), show ((n : Int) / 2) = ((n / 2 : Nat) : Int) by omega, xor_nat h (by omega)]; rfl
theorem gray_int' {n : Nat} (h : n < 2 ^ 63) : Go.bits .xor .i64 (n : Int) ((n : Int) / 2) = (M.gray n : Int) := by
  rw [show ((n : Int) / 2) = ((n / 2 : Nat) : Int) by omega, xor_nat h (by omega)]; rfl
theorem rd_nat {l : List Int} {i : Nat} {x : Int} (h : l[i]? = some x) : rd l (i : Int) = x := by
  unfold rd; rw [Int.toNat_natCast, List.getD, h]; rfl
def mk : Int → Nat → List Int
  | _, 0 => []
  | m, d + 1 => m :: mk (m + 1) d
theorem getElem?_drop_cons {α : Type} {l r : List α} {i : Nat} {x : α} (h : l.drop i = x :: r) : l[i]? = some x ∧ l.drop (i + 1) = r ∧ i < l.length := by
  have h1 : (l.drop i)[0]? = some x := by rw [h]; rfl
  rw [List.getElem?_drop, Nat.add_zero] at h1
  refine ⟨h1, ?_, (List.getElem?_eq_some_iff.1 h1).1⟩
  rw [← List.drop_drop, h]; rfl
theorem drop_cons {α : Type} {l : List α} {i : Nat} (h : i < l.length) : ∃ x r, l.drop i = x :: r := ⟨l[i], l.drop (i + 1), List.drop_eq_getElem_cons h⟩
end Go.Proofs.Ytcgilnmljflebaa.Pure
