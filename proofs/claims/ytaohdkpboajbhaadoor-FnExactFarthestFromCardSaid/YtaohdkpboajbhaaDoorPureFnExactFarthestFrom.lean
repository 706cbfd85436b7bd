/- The law FnExactFarthestFrom, told over plain functions, holds for all arguments; no condition beyond the kinds of the numbers and the texts' sizes that any argument has. -/
import Derived.Test.YtaohdkpboajbhaaDoorAx1
import Derived.Test.YtaohdkpboajbhaaDoorAx2
import Derived.Test.YtaohdkpboajbhaaDoorAx3
import Derived.Test.YtaohdkpboajbhaaDoorStrS
set_option linter.unusedVariables false
set_option linter.unusedSimpArgs false
namespace Go.Proofs.YtaohdkpboajbhaaDoor.Pure
open Go.RowKit Go.Proofs.YtaohdkpboajbhaaDoor.A Go.Proofs.YtaohdkpboajbhaaDoorW.PrintWords Go.Proofs.YtaohdkpboajbhaaDoorW.PrintLast Go.Proofs.YtaohdkpboajbhaaDoorW.PrintMore

theorem FnExactFarthestFrom : laws_FnExactFarthestFrom.Pure := by
  intro s hs
  refine ⟨200, ?_⟩
  unfold laws_FnExactFarthestFrom.f
  by_cases hbig : (s.size : Int) > 1048576
  · rw [if_pos hbig]
  rw [if_neg hbig]
  suffices h : ∃ r : List ByteArray × Int × Bool, r.1.length ≤ 40 ∧ (∀ k, 90 < k → spec_FarthestFrom.f k s = some r ∧ impl_FarthestFrom.f k s = some r) by
    obtain ⟨r, hr, h⟩ := h
    have hE : ∀ k, 41 < k → laws_eqStringS.f k r.1 r.1 = some true := fun k hk => by rw [eqStringS (by omega) (by omega)]; simp
    rw [(h 200 (by omega)).1, (h 200 (by omega)).2]
    simp only [Option.bind_some, hE 200 (by omega), if_true, bne_self_eq_false]
    rw [laws_FnExactFarthestFrom.j0, markStringS (by omega) (by omega)]
    simp only [Option.bind_some, Bool.false_eq_true, if_false]
    rw [heldStringS (by omega) (by omega), (h 199 (by omega)).2]
    have hn : ¬ (1 + (r.1.length : Int)) < 0 := by omega
    simp only [Option.bind_some, hn, if_false, if_true, hE 199 (by omega), bne_self_eq_false]
    rw [laws_FnExactFarthestFrom.j1, heldStringS (by omega) (by omega)]
    simp [hn]
  rcases stateCases s with ⟨a, rfl, ha⟩ | ⟨l, rfl, hl⟩
  · have na := M.num_lt a
    have np : 2 ^ a.length ≤ 2 ^ 20 := Nat.pow_le_pow_right (by decide) ha.2
    have ne : 2 ^ a.length % 2 = 0 := by
      obtain ⟨m, hm⟩ : ∃ m, a.length = m + 1 := ⟨a.length - 1, by omega⟩
      rw [hm, Nat.pow_succ]; omega
    have e0 : wrap64 (((2 ^ a.length - 1 : Nat) : Int) - (M.num a : Int)) = ((2 ^ a.length - 1 - M.num a : Nat) : Int) := by
      rw [w64 (by omega) (by omega)]; omega
    have e1 : wrap64 (shl .i64 1 (a.length : Int) - 1) = ((2 ^ a.length - 1 : Nat) : Int) := by
      rw [shl_one (by omega), w64 (x := ((2 ^ a.length : Nat) : Int) - 1) (by omega) (by omega)]; omega
    have hz : ∀ k, 90 < k → spec_riState.f k (a.length : Int) 0 = some (sb (M.st a.length 0)) ∧ impl_state.f k (a.length : Int) 0 = some (sb (M.st a.length 0)) := fun k hk =>
      ⟨riState (n := 0) (by omega) (by omega) (by omega), state (n := 0) (by omega) (by omega) (by omega)⟩
    have ho : ∀ k, 90 < k → spec_riState.f k (a.length : Int) ((2 ^ a.length - 1 : Nat) : Int) = some (sb (M.st a.length (2 ^ a.length - 1))) ∧ impl_state.f k (a.length : Int) ((2 ^ a.length - 1 : Nat) : Int) = some (sb (M.st a.length (2 ^ a.length - 1))) := fun k hk =>
      ⟨riState (by omega) (by omega) (by omega), state (by omega) (by omega) (by omega)⟩
    have hg : (([] : List ByteArray).length < 8796093022208) := by decide
    by_cases q : 2 ^ a.length - 1 - M.num a < M.num a
    · refine ⟨([sb (M.st a.length 0)], (M.num a : Int), true), by simp, fun k hk => ?_⟩
      have q1 : (M.num a : Int) > ((2 ^ a.length - 1 - M.num a : Nat) : Int) := by omega
      have q2 : ¬ ((2 ^ a.length - 1 - M.num a : Nat) : Int) = (M.num a : Int) := by omega
      have m1 : spec_l1Most.f (M.num a : Int) ((2 ^ a.length - 1 - M.num a : Nat) : Int) = some (M.num a : Int) := by unfold spec_l1Most.f; rw [if_pos q1]
      unfold spec_FarthestFrom.f impl_FarthestFrom.f
      rw [riGood_sb ha.1 ha.2 (by omega), isState_sb ha.1 ha.2, riNumber (by omega) (by omega), number (by omega) (by omega)]
      simp only [Option.bind_some, if_true, sb_size, e1, e0, m1, (hz k hk).1, (hz k hk).2, hg, q1, q2, if_false]
      simp
    · refine ⟨([sb (M.st a.length (2 ^ a.length - 1))], ((2 ^ a.length - 1 - M.num a : Nat) : Int), true), by simp, fun k hk => ?_⟩
      have q1 : ¬ (M.num a : Int) > ((2 ^ a.length - 1 - M.num a : Nat) : Int) := by omega
      have q2 : ¬ (M.num a : Int) = ((2 ^ a.length - 1 - M.num a : Nat) : Int) := by omega
      have m1 : spec_l1Most.f (M.num a : Int) ((2 ^ a.length - 1 - M.num a : Nat) : Int) = some ((2 ^ a.length - 1 - M.num a : Nat) : Int) := by unfold spec_l1Most.f; rw [if_neg q1]
      unfold spec_FarthestFrom.f impl_FarthestFrom.f
      rw [riGood_sb ha.1 ha.2 (by omega), isState_sb ha.1 ha.2, riNumber (by omega) (by omega), number (by omega) (by omega)]
      simp only [Option.bind_some, if_true, sb_size, e1, e0, m1, q2, if_false, (ho k hk).1, (ho k hk).2, hg, q1]
      simp
  · refine ⟨([], 0, false), by simp, fun k hk => ?_⟩
    rw [tx_size] at hs
    unfold spec_FarthestFrom.f impl_FarthestFrom.f
    rw [riGood (by omega), isState hs, hl]
    simp

end Go.Proofs.YtaohdkpboajbhaaDoor.Pure
