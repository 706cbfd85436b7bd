/- What the printed functions of ways give. -/
import Derived.Test.YtgmmplcijhibgaaDoorAx5
import Derived.Test.YtgmmplcijhibgaaDoorAx6
import Derived.Test.YtgmmplcijhibgaaDoorAx8
import Derived.Test.YtgmmplcijhibgaaDoorNext
set_option linter.unusedVariables false
set_option linter.unusedSimpArgs false
namespace Go.Proofs.YtgmmplcijhibgaaDoor.Pure
open Go.RowKit Go.Proofs.YtgmmplcijhibgaaDoor.A Go.Proofs.YtgmmplcijhibgaaDoorW.PrintWords Go.Proofs.YtgmmplcijhibgaaDoorW.PrintLast Go.Proofs.YtgmmplcijhibgaaDoorW.PrintMore

/-! ways -/
def dst (n m : Nat) : Nat := if n < m then m - n else n - m
theorem dst_zero {n m : Nat} : dst n m = 0 ↔ n = m := by unfold dst; split <;> omega
theorem dst_nxt {n m d : Nat} (h : dst n m = d + 1) : dst (nxt n m) m = d := by
  unfold dst at h ⊢; unfold nxt
  by_cases q : n < m
  · rw [if_pos q] at h ⊢
    by_cases q2 : n + 1 < m
    · rw [if_pos q2]; omega
    · rw [if_neg q2]; omega
  · rw [if_neg q] at h ⊢
    by_cases q2 : n - 1 < m
    · rw [if_pos q2]; omega
    · rw [if_neg q2]; omega
theorem apart_dst {n m : Nat} (hn : n < 2 ^ 40) (hm : m < 2 ^ 40) : impl_apart.f (n : Int) (m : Int) = some ((dst n m : Nat) : Int) ∧ spec_l1Abs.f (wrap64 ((n : Int) - (m : Int))) = some ((dst n m : Nat) : Int) := by
  unfold spec_l1Abs.f spec_l1Most.f impl_apart.f mx dst
  rw [w64 (x := (n : Int) - (m : Int)) (by omega) (by omega), w64 (x := -((n : Int) - (m : Int))) (by omega) (by omega), w64 (x := (m : Int) - (n : Int)) (by omega) (by omega)]
  by_cases q : n < m
  · rw [if_pos (by omega), if_pos q, if_neg (by omega)]
    exact ⟨by congr 1; omega, by simp only [Option.bind_some]; congr 1; omega⟩
  · rw [if_neg (by omega), if_neg q]
    refine ⟨by congr 1; omega, ?_⟩
    by_cases q2 : m < n
    · rw [if_pos (by omega)]; simp only [Option.bind_some]; congr 1; omega
    · rw [if_neg (by omega)]; simp only [Option.bind_some]; congr 1; omega
theorem st_eq {n m r : Nat} (hn : n < 2 ^ r) (hm : m < 2 ^ r) : (sb (M.st r n)).toList = (sb (M.st r m)).toList ↔ n = m := by
  constructor
  · intro h
    rw [sb_toList, sb_toList] at h
    have := congrArg M.num (map_sg_inj h)
    rwa [M.num_st hn, M.num_st hm] at this
  · rintro rfl; rfl
theorem riNext_st {n m r k : Nat} (hr : r ≤ 40) (hn : n < 2 ^ r) (hm : m < 2 ^ r) (hne : n ≠ m) (hk : 62 < k) : spec_riNext.f k (sb (M.st r n)) (sb (M.st r m)) = some (sb (M.st r (nxt n m))) := by
  have := riNext (a := M.st r n) (b := M.st r m) (k := k) (by rw [M.st_length]; exact hr) (by rw [M.st_length, M.st_length]) (fun h => by
    have := congrArg M.num h
    rw [M.num_st hn, M.num_st hm] at this; exact hne this) hk
  rw [M.num_st hn, M.num_st hm, flip_next hn hm hne] at this
  exact this
theorem riDiffers_st {n m r k : Nat} (hn : n < 2 ^ r) (hm : m < 2 ^ r) (hne : n ≠ m) (hk : r ≤ k) : spec_riDiffers.f k (sb (M.st r n)) (sb (M.st r (nxt n m))) = some (rng n m : Int) := by
  have h := rng_lt hn hm hne
  have := riDiffers (bs := M.st r n) (j := rng n m) (k := k) (by rw [M.st_length]; exact h) (by omega)
  rw [flip_next hn hm hne] at this
  exact this

end Go.Proofs.YtgmmplcijhibgaaDoor.Pure
