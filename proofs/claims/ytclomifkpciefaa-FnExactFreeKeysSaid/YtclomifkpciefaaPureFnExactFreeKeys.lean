/- The law FnExactFreeKeys, told over plain functions, holds for all arguments; no condition beyond the kinds of the numbers. -/
import Derived.Test.YtclomifkpciefaaFx1
import Derived.Test.YtclomifkpciefaaFx2
set_option linter.unusedVariables false
set_option linter.unusedSimpArgs false
namespace Go.Proofs.Ytclomifkpciefaa.Pure
open Go.RowKit Go.Proofs.Ytclomifkpciefaa.F Go.Proofs.YtclomifkpciefaaW.PrintWords Go.Proofs.YtclomifkpciefaaW.PrintLast Go.Proofs.YtclomifkpciefaaW.PrintMore

theorem freeKeys_some : ∀ n : Nat, n < 10 → laws_FnExactFreeKeys.f 60 ((n : Int) + 1) = some true := by decide +kernel
theorem freeKeys_none : ∀ k, 3 < k → laws_eqStringS.f k [] [] = some true ∧ laws_markStringS.f k [] 1 = some (1, []) ∧ laws_heldStringS.f k [] 1 = some 1 := by
  intro k hk
  obtain ⟨k, rfl⟩ : ∃ m, k = m + 1 := ⟨k - 1, by omega⟩
  exact ⟨rfl, rfl, rfl⟩
theorem FnExactFreeKeys : laws_FnExactFreeKeys.Pure := by
  intro a0 _
  refine ⟨60, ?_⟩
  by_cases h : 1 ≤ a0 ∧ a0 ≤ 10
  · obtain ⟨n, hn⟩ := Int.eq_ofNat_of_zero_le (show 0 ≤ a0 - 1 by omega)
    have := freeKeys_some n (by omega)
    rwa [show ((n : Int) + 1) = a0 by omega] at this
  · have hs : ∀ k, spec_FreeKeys.f k a0 = some ([], false) := by
      intro k
      unfold spec_FreeKeys.f spec_keRings.f spec_l1In.f
      by_cases q0 : a0 ≥ 1
      · have q1 : ¬ a0 ≤ 10 := fun z => h ⟨q0, z⟩
        simp [q0, q1]
      · simp [q0]
    have hi : impl_FreeKeys.f a0 = some ([], false) := by
      unfold impl_FreeKeys.f impl_in.f
      by_cases q0 : a0 ≥ 1
      · have q1 : ¬ a0 ≤ 10 := fun z => h ⟨q0, z⟩
        simp [q0, q1]
      · simp [q0]
    unfold laws_FnExactFreeKeys.f
    rw [hs, hi]
    simp only [Option.bind_some]
    rw [(freeKeys_none 60 (by omega)).1]
    simp only [Option.bind_some, if_true, bne_self_eq_false, laws_FnExactFreeKeys.j0, laws_FnExactFreeKeys.j1, Bool.false_eq_true, if_false]
    rw [(freeKeys_none 59 (by omega)).2.1]
    simp only [Option.bind_some]
    rw [(freeKeys_none 59 (by omega)).2.2]
    simp only [Option.bind_some]
    rw [if_neg (by omega), if_pos trivial, hi]
    simp only [Option.bind_some]
    rw [(freeKeys_none 59 (by omega)).1]
    simp only [Option.bind_some, if_true, bne_self_eq_false, Bool.false_eq_true, if_false]
    rw [(freeKeys_none 58 (by omega)).2.2]
    rfl

end Go.Proofs.Ytclomifkpciefaa.Pure
