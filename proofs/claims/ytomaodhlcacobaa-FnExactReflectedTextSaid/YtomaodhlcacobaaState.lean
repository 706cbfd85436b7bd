/- What the printed functions of states give; no statement of the program. -/
import Derived.Test.YtomaodhlcacobaaAx5
import Derived.Test.YtomaodhlcacobaaAx6
import Derived.Test.YtomaodhlcacobaaNum
set_option linter.unusedVariables false
set_option linter.unusedSimpArgs false
namespace Go.Proofs.Ytomaodhlcacobaa.Pure
open Go.RowKit Go.Proofs.Ytomaodhlcacobaa.A Go.Proofs.YtomaodhlcacobaaW.PrintWords Go.Proofs.YtomaodhlcacobaaW.PrintLast Go.Proofs.YtomaodhlcacobaaW.PrintMore

theorem riState_l0 {r n : Nat} (hr : r ≤ 40) (hn : n < 2 ^ 62) (d : Nat) : ∀ (k i : Nat), i + d = r → d < k →
    spec_riState.l0 k (r : Int) (n : Int) (sb ((M.st r n).take i)) (i : Int) = some (sb (M.st r n)) := by
  have hl := M.st_length r n
  induction d with
  | zero =>
    intro k i hi hk
    obtain ⟨k, rfl⟩ : ∃ m, k = m + 1 := ⟨k - 1, by omega⟩
    simp only [spec_riState.l0]
    rw [if_neg (by omega), List.take_of_length_le (by omega)]
  | succ d ih =>
    intro k i hi hk
    obtain ⟨k, rfl⟩ : ∃ m, k = m + 1 := ⟨k - 1, by omega⟩
    have h := ih k (i + 1) (by omega) (by omega)
    have hg := M.st_get (r := r) (n := n) (k := i) (by omega)
    have hs : (sb ((M.st r n).take i)).size = i := by rw [sb_size, List.length_take]; omega
    have ht : (M.st r n).take (i + 1) = (M.st r n).take i ++ [decide ((n / 2 ^ i + n / 2 ^ (i + 1)) % 2 = 1)] := by
      rw [List.take_add_one, hg]; rfl
    have e1 : sb ((M.st r n).take (i + 1)) = sb ((M.st r n).take i) ++ tx [sg (decide ((n / 2 ^ i + n / 2 ^ (i + 1)) % 2 = 1))] := by
      rw [ht, sb, sb, tx_app, List.map_append]; rfl
    simp only [spec_riState.l0]
    rw [if_pos (by omega), if_pos (by omega), w64 (by omega) (by omega), if_pos (by omega)]
    rw [show ((i : Int) + 1) = ((i + 1 : Nat) : Int) by omega, and_shr (by omega) (by omega), and_shr (by omega) (by omega), hs]
    generalize n / 2 ^ i = u at *
    generalize n / 2 ^ (i + 1) = v at *
    by_cases q : (u + v) % 2 = 1
    · rw [if_neg (by omega), if_pos (by omega)]
      rw [e1] at h
      simp only [q, decide_true, sg, if_true] at h
      exact h
    · rw [if_pos (by omega), if_pos (by omega)]
      rw [e1] at h
      simp only [q, decide_false, sg, Bool.false_eq_true, if_false] at h
      exact h
theorem riState {r n k : Nat} (hr : r ≤ 40) (hn : n < 2 ^ 62) (hk : r < k) : spec_riState.f k (r : Int) (n : Int) = some (sb (M.st r n)) := by
  have := riState_l0 hr hn r k 0 (by omega) hk
  simpa [spec_riState.f, sb, tx] using this
def nsg (b : Bool) : Int := if b then 49 else 48
theorem strOfNums_nsg (bs : List Bool) : strOfNums (bs.map nsg) = sb bs := by
  unfold strOfNums sb tx
  congr 2
  rw [List.map_map]
  apply List.map_congr_left
  intro b _
  cases b <;> rfl
theorem state_l0 {r n : Nat} (hr : r ≤ 40) (hn : n < 2 ^ 62) (d : Nat) : ∀ (k i : Nat), i + d = r → d < k →
    impl_state.l0 k (M.gray n : Int) (((M.st r n).take i).map nsg ++ List.replicate d 0) (r : Int) (i : Int) = some (sb (M.st r n)) := by
  have hl := M.st_length r n
  induction d with
  | zero =>
    intro k i hi hk
    obtain ⟨k, rfl⟩ : ∃ m, k = m + 1 := ⟨k - 1, by omega⟩
    simp only [impl_state.l0]
    rw [if_neg (by omega), List.take_of_length_le (by omega), List.replicate_zero, List.append_nil, strOfNums_nsg]
  | succ d ih =>
    intro k i hi hk
    obtain ⟨k, rfl⟩ : ∃ m, k = m + 1 := ⟨k - 1, by omega⟩
    have h := ih k (i + 1) (by omega) (by omega)
    have hg := M.st_get (r := r) (n := n) (k := i) (by omega)
    have ht : (M.st r n).take (i + 1) = (M.st r n).take i ++ [decide ((n / 2 ^ i + n / 2 ^ (i + 1)) % 2 = 1)] := by
      rw [List.take_add_one, hg]; rfl
    have hlen : (((M.st r n).take i).map nsg).length = i := by rw [List.length_map, List.length_take]; omega
    have hgr : M.gray n / 2 ^ i % 2 = (n / 2 ^ i + n / 2 ^ (i + 1)) % 2 := by
      rw [M.gray_divs, M.gray_mod, M.div_pow_succ']
    have hgl := M.gray_lt (r := 62) hn
    simp only [impl_state.l0]
    rw [if_pos (by omega), if_pos (by omega), if_pos (by rw [List.length_append, hlen, List.length_replicate]; omega)]
    rw [w64 (by omega) (by omega), and_shr (by omega) (by omega), hgr, Int.toNat_natCast]
    rw [show ((i : Int) + 1) = ((i + 1 : Nat) : Int) by omega]
    have e : (((M.st r n).take i).map nsg ++ List.replicate (d + 1) 0).set i ((48 + ((((n / 2 ^ i + n / 2 ^ (i + 1)) % 2 : Nat) : Int)) % 256) % 256) = ((M.st r n).take (i + 1)).map nsg ++ List.replicate d 0 := by
      rw [List.set_append_right _ _ (by omega), hlen, Nat.sub_self, List.replicate_succ, List.set_cons_zero, ht, List.map_append, List.append_assoc]
      congr 1
      simp only [List.map_cons, List.map_nil, List.singleton_append]
      congr 1
      by_cases q : (n / 2 ^ i + n / 2 ^ (i + 1)) % 2 = 1
      · rw [q]; simp [nsg]
      · have : (n / 2 ^ i + n / 2 ^ (i + 1)) % 2 = 0 := by omega
        rw [this]; simp [nsg]
    rw [e]
    exact h
theorem state {r n k : Nat} (hr : r ≤ 40) (hn : n < 2 ^ 62) (hk : r < k) : impl_state.f k (r : Int) (n : Int) = some (sb (M.st r n)) := by
  have h := state_l0 hr hn r k 0 (by omega) hk
  unfold impl_state.f
  rw [if_pos (by omega), Int.toNat_natCast, if_pos (by omega), gray_int (by omega)]
  simp only [Option.bind_some, List.length_replicate]
  simpa using h

end Go.Proofs.Ytomaodhlcacobaa.Pure
