/- The law FnExactMoveThatFails, told over plain functions, holds for all arguments; no condition beyond the kinds of the numbers and the texts' sizes that any argument has. -/
import Derived.Test.YtaohdkpboajbhaaDoorAx5
import Derived.Test.YtaohdkpboajbhaaDoorAx6
import Derived.Test.YtaohdkpboajbhaaDoorSteps
set_option linter.unusedVariables false
set_option linter.unusedSimpArgs false
namespace Go.Proofs.YtaohdkpboajbhaaDoor.Pure
open Go.RowKit Go.Proofs.YtaohdkpboajbhaaDoor.A Go.Proofs.YtaohdkpboajbhaaDoorW.PrintWords Go.Proofs.YtaohdkpboajbhaaDoorW.PrintLast Go.Proofs.YtaohdkpboajbhaaDoorW.PrintMore

theorem FnExactMoveThatFails : laws_FnExactMoveThatFails.Pure := by
  intro s l hs _ _ _
  refine ⟨2000000, ?_⟩
  unfold laws_FnExactMoveThatFails.f
  by_cases hbig : (s.size : Int) > 1048576
  · rw [if_pos hbig]
  rw [if_neg hbig]
  by_cases hlen : (l.length : Int) > 1048576
  · rw [if_pos hlen]
  rw [if_neg hlen, toIntS (by omega) (by omega)]
  have hE : laws_eqIntS.f 1999999 l l = some true := by rw [eqIntS (by omega) (by omega)]; simp
  have hT : laws_toIntS.f 1999999 l = some l := toIntS (by omega) (by omega)
  have fin : ∀ r : Int × Bool, spec_MoveThatFails.f 2000000 s l = some r → impl_MoveThatFails.f 2000000 s l = some r → ((some l).bind fun t241 => ((spec_MoveThatFails.f 2000000 s t241).bind fun bt244 => ((some l).bind fun t246 => ((impl_MoveThatFails.f 2000000 s t246).bind fun bt249 => (if bt249.1 = bt244.1 then (laws_FnExactMoveThatFails.j0 2000000 l t246 (bt249.2 != bt244.2)) else (laws_FnExactMoveThatFails.j0 2000000 l t246 true)))))) = some true := by
    intro r h1 h2
    simp only [Option.bind_some, h1, h2, if_true, bne_self_eq_false]
    rw [laws_FnExactMoveThatFails.j0, hT]
    simp [hE]
  suffices h : ∃ r : Int × Bool, spec_MoveThatFails.f 2000000 s l = some r ∧ impl_MoveThatFails.f 2000000 s l = some r from h.elim fun r h => fin r h.1 h.2
  unfold spec_MoveThatFails.f impl_MoveThatFails.f
  rcases stateCases s with ⟨bs, rfl, hb⟩ | ⟨m, rfl, hm⟩
  · rw [riGood_sb hb.1 hb.2 (by omega), isState_sb hb.1 hb.2]
    simp only [Option.bind_some, if_true, spec_MoveThatFails.j0, impl_MoveThatFails.j0, decide_eq_true_eq]
    by_cases q : (l.length : Int) > 2000
    · exact ⟨(0, false), by rw [if_pos q], by rw [if_pos q]⟩
    · rw [if_neg q, if_neg q, riPlay (by omega) hb.1 (by omega) (by omega), play (by omega) hb.1 (by omega) (by omega)]
      simp only [Option.bind_some]
      cases hp : (playB bs l 0).2 with
      | none => exact ⟨(0, false), by simp [pos], by simp [pos]⟩
      | some j =>
        have := playB_lt _ _ _ _ hp
        have e1 : (j : Int) < (l.length : Int) := by omega
        have e2 : ¬ (j : Int) < 0 := by omega
        have e3 : ¬ (j : Int) = (l.length : Int) := by omega
        exact ⟨((j : Int), true), by simp only [pos, e2, if_false], by simp only [pos, e3, if_false]⟩
  · rw [tx_size] at hs
    rw [riGood (by omega), isState hs, hm]
    simp only [Option.bind_some, Bool.false_eq_true, if_false, spec_MoveThatFails.j0, impl_MoveThatFails.j0, if_true]
    exact ⟨_, rfl, rfl⟩

end Go.Proofs.YtaohdkpboajbhaaDoor.Pure
