/- The law FnExactRankOfSet, told over plain functions, holds for all arguments; no condition beyond the kinds of the numbers. -/
import Derived.Test.YtomaodhlcacobaaAx7
import Derived.Test.YtomaodhlcacobaaAx8
import Derived.Test.YtomaodhlcacobaaRSet
set_option linter.unusedVariables false
set_option linter.unusedSimpArgs false
namespace Go.Proofs.Ytomaodhlcacobaa.Pure
open Go.RowKit Go.Proofs.Ytomaodhlcacobaa.A Go.Proofs.YtomaodhlcacobaaW.PrintWords Go.Proofs.YtomaodhlcacobaaW.PrintLast Go.Proofs.YtomaodhlcacobaaW.PrintMore

theorem FnExactRankOfSet : laws_FnExactRankOfSet.Pure := by
  intro a0 l _ _ _ _
  refine ⟨l.length + 200, ?_⟩
  unfold laws_FnExactRankOfSet.f
  by_cases hl : (l.length : Int) > 1048576
  · rw [if_pos hl]
  rw [if_neg hl, toIntS (by omega) (by omega)]
  have key : ∀ (r : Int) (b : Bool), impl_RankOfSet.f (l.length + 200) a0 l = some (r, b) → spec_RankOfSet.f (l.length + 200) a0 l = some (r, b) →
      ((some l).bind fun t272 => (spec_RankOfSet.f (l.length + 200) a0 t272).bind fun bt275 => (some l).bind fun t277 => (impl_RankOfSet.f (l.length + 200) a0 t277).bind fun bt280 => if bt280.1 = bt275.1 then laws_FnExactRankOfSet.j0 (l.length + 200) l t277 (bt280.2 != bt275.2) else laws_FnExactRankOfSet.j0 (l.length + 200) l t277 true) = some true := by
    intro r b h1 h2
    simp only [Option.bind_some, h1, h2, if_true, bne_self_eq_false]
    simp only [laws_FnExactRankOfSet.j0, Bool.false_eq_true, if_false]
    rw [toIntS (by omega) (by omega)]
    simp only [Option.bind_some]
    rw [eqIntS (by omega) (by omega)]
    simp
  by_cases h : ∃ (s : Nat) (ns : List Nat), a0 = s ∧ l = ns.map Int.ofNat ∧ (1 ≤ s ∧ s ≤ 20) ∧ Asc s ns
  · obtain ⟨s, ns, rfl, rfl, hs, ha⟩ := h
    obtain ⟨h1, h2⟩ := rankOfSet (k := (ns.map Int.ofNat).length + 200) hs ha (by omega)
    exact key _ _ h1 h2
  · obtain ⟨h1, h2⟩ := rankOfSet_no (k := l.length + 200) (by omega) h (by omega)
    exact key _ _ h1 h2

end Go.Proofs.Ytomaodhlcacobaa.Pure
