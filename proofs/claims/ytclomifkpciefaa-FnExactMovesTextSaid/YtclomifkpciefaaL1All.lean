/- What the printed test of numbers gives. -/
import Derived.Test.YtclomifkpciefaaAx1
import Derived.Test.YtclomifkpciefaaAx4
import Derived.Test.YtclomifkpciefaaIntS
set_option linter.unusedVariables false
set_option linter.unusedSimpArgs false
namespace Go.Proofs.Ytclomifkpciefaa.Pure
open Go.RowKit Go.Proofs.Ytclomifkpciefaa.A Go.Proofs.YtclomifkpciefaaW.PrintWords Go.Proofs.YtclomifkpciefaaW.PrintLast Go.Proofs.YtclomifkpciefaaW.PrintMore

theorem l1All_l0 {l : List Int} {lo hi : Int} (hl : l.length ≤ 2000000) (r : List Int) : ∀ (k i : Nat), l.drop i = r → r.length < k →
    spec_l1All.l0 k lo hi l (l.length : Int) (i : Int) = some (r.all fun x => decide (lo ≤ x ∧ x ≤ hi)) := by
  induction r with
  | nil =>
    intro k i hd hk
    obtain ⟨k, rfl⟩ : ∃ m, k = m + 1 := ⟨k - 1, by omega⟩
    have : l.length ≤ i := List.drop_eq_nil_iff.1 hd
    simp only [spec_l1All.l0]
    rw [if_neg (by omega)]; rfl
  | cons x r ih =>
    intro k i hd hk
    obtain ⟨k, rfl⟩ : ∃ m, k = m + 1 := ⟨k - 1, by omega⟩
    obtain ⟨h2, h3, h4⟩ := getElem?_drop_cons hd
    simp only [spec_l1All.l0, spec_l1In.f]
    rw [if_pos (by omega), if_pos (by omega), if_pos (by omega), rd_nat h2, w64 (x := (i : Int) + 1) (by omega) (by omega), show ((i : Int) + 1) = ((i + 1 : Nat) : Int) by omega]
    rw [ih k (i + 1) h3 (by simp at hk; omega)]
    by_cases q0 : x ≥ lo
    · have q0' : lo ≤ x := q0
      by_cases q1 : x ≤ hi
      · simp [q0', q1]
      · simp [q0', q1]
    · have q0' : ¬ lo ≤ x := q0
      simp [q0']
theorem l1All {l : List Int} {lo hi : Int} {k : Nat} (hl : l.length ≤ 2000000) (hk : l.length < k) : spec_l1All.f k l lo hi = some (l.all fun x => decide (lo ≤ x ∧ x ≤ hi)) := by
  unfold spec_l1All.f
  exact l1All_l0 hl l k 0 (by simp) hk

end Go.Proofs.Ytclomifkpciefaa.Pure
