/- The law FnExactMovesOf, told over plain functions, holds for all arguments; no condition beyond the kinds of the numbers and the texts' sizes that any argument has. -/
import Derived.Test.YtaohdkpboajbhaaDoorAx5
import Derived.Test.YtaohdkpboajbhaaDoorAx6
import Derived.Test.YtaohdkpboajbhaaDoorAx7
import Derived.Test.YtaohdkpboajbhaaDoorNext
set_option linter.unusedVariables false
set_option linter.unusedSimpArgs false
namespace Go.Proofs.YtaohdkpboajbhaaDoor.Pure
open Go.RowKit Go.Proofs.YtaohdkpboajbhaaDoor.A Go.Proofs.YtaohdkpboajbhaaDoorW.PrintWords Go.Proofs.YtaohdkpboajbhaaDoorW.PrintLast Go.Proofs.YtaohdkpboajbhaaDoorW.PrintMore

theorem FnExactMovesOf : laws_FnExactMovesOf.Pure := by
  intro s hs
  refine ⟨200, ?_⟩
  unfold laws_FnExactMovesOf.f
  by_cases hbig : (s.size : Int) > 1048576
  · rw [if_pos hbig]
  rw [if_neg hbig]
  suffices h : ∃ r : List Int × Bool, r.1.length ≤ 40 ∧ (∀ k, 190 < k → spec_MovesOf.f k s = some r ∧ impl_MovesOf.f k s = some r) by
    obtain ⟨r, hr, h⟩ := h
    have hE : ∀ k, 41 < k → laws_eqIntS.f k r.1 r.1 = some true := fun k hk => by rw [eqIntS (by omega) (by omega)]; simp
    rw [(h 200 (by omega)).1, (h 200 (by omega)).2]
    simp only [Option.bind_some, hE 200 (by omega), if_true, bne_self_eq_false]
    rw [laws_FnExactMovesOf.j0, markIntS (by omega) (by omega)]
    simp only [Option.bind_some, Bool.false_eq_true, if_false]
    rw [heldIntS (by omega) (by omega), (h 199 (by omega)).2]
    have hn : ¬ (1 + (r.1.length : Int)) < 0 := by omega
    simp only [Option.bind_some, hn, if_false, if_true, hE 199 (by omega), bne_self_eq_false]
    rw [laws_FnExactMovesOf.j1, heldIntS (by omega) (by omega)]
    simp [hn]
  rcases stateCases s with ⟨a, rfl, ha⟩ | ⟨l, rfl, hl⟩
  · refine ⟨(canL a 0 a.length, true), Nat.le_trans (canL_length _ _ _) (by omega), fun k hk => ?_⟩
    unfold spec_MovesOf.f impl_MovesOf.f
    rw [riGood_sb ha.1 ha.2 (by omega), isState_sb ha.1 ha.2, riMoves (by omega) (by omega), movesOf (by omega) (by omega)]
    exact ⟨rfl, rfl⟩
  · refine ⟨([], false), by simp, fun k hk => ?_⟩
    rw [tx_size] at hs
    unfold spec_MovesOf.f impl_MovesOf.f
    rw [riGood (by omega), isState hs, hl]
    exact ⟨rfl, rfl⟩

end Go.Proofs.YtaohdkpboajbhaaDoor.Pure
