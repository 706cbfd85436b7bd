-- written by a program of this session's (rowb.py)
import Derived.Test.YtpbgloppcenljaaRows
import Derived.Test.YtpbgloppcenljaaAx11
import Derived.Test.YtpbgloppcenljaaAOp
import Derived.Test.YtpbgloppcenljaaPureFnExactAllowedStates
import Derived.WalkKit
import Derived.ProofKit
import Derived.OpenShut
import Derived.ShutString
import Derived.ChangeOld
import Derived.Below
import Derived.SizedLaws
namespace Go.Proofs.Ytpbgloppcenljaa.fnExactAllowedStates
open Go.ChangeShapes Go.WideShapes Go.ChangeAt Go.RowKit
open Go.ChangeMaps (open_string shut_string)
set_option linter.unusedVariables false
theorem own : ownKnob Try.prog.godebug = none := by kernel_rfl
theorem laidOut : laidOutB Try.prog = true := by kernel_rfl
set_option maxRecDepth 100000 in
theorem lifted (os : Os) (started : os.Started) (H : Type) (enc : TypeId × Value → H) :
    ReturnsInHanded {} Try.checked os 4 .any (Rows.fnExactAllowedStatesSpec.pre6 enc Try.prog Try.f4 Rows.fnExactAllowedStatesRow.domain false) (Rows.fnExactAllowedStatesSpec.post enc Try.prog Try.f4 false true false false) := by
  refine returnsInHanded_of_change_sized (C := Try.checked) own started (by kernel_rfl) Try.func4
    (ChangeSpec.witness6 (enc := enc) (C := Try.checked) false ⟨#[], #[.agg #[.slice none 0 0, .slice none 0 0]], []⟩ 8 (by kernel_rfl) (by kernel_rfl) (by kernel_rfl) (by kernel_rfl)) ?_
  intro W base args ds gs before hval0 hW hcnd hsz0 _
  have hval : ∀ (j : Nat) t v, Try.f4.params[j]? = some t → args[j]? = some v → Value.okWide Try.prog W .any base t v := hval0
  have hW' := hW
  obtain ⟨p, q, hA0, hV, rfl, hfz, hnd⟩ := hW
  have hA : DataW.TrodAll enc Try.prog W 0 (fun _ => true) true Try.f4.params.toList args.toList ds p := hA0
  rw [Try.params4] at hA hval
  obtain ⟨v0, vs0, d0, ds0, p0, q0, hargs, rfl, rfl, h0, r0⟩ := trodAll_cons hA
  obtain ⟨rfl, rfl, rfl⟩ := trodAll_nil r0
  obtain rfl : args = #[v0] := by cases args; simp_all
  obtain ⟨rfl, rfl⟩ := trodVars_none hV
  obtain ⟨cs0, rfl, hcs0⟩ := okWide_struct Try.underlying25 (hval 0 25 v0 rfl rfl)
  have k0 := h0
  have lt0 : ∀ x ∈ p0, x.block < W.heap.size := by obtain ⟨m, hm⟩ := k0; exact DataW.trod_lt m _ _ _ hm
  obtain ⟨A0, c0, l0, A1, c1, l1, hcs, hc0, hc1, hm0, hm1, hr0, hr1⟩ : ∃ (A0 : Option Addr) (c0 : Nat) (l0 : List Int) (A1 : Option Addr) (c1 : Nat) (l1 : List A.S61), (Value.agg cs0).cells.toList = [.slice A0 l0.length c0, .slice A1 l1.length c1] ∧ l0.length ≤ c0 ∧ l1.length ≤ c1 ∧ l0.length ≤ maxLen ∧ l1.length ≤ maxLen ∧
      Go.Proofs.YtpbgloppcenljaaW.PrintWords.Kd.C (Go.Proofs.YtpbgloppcenljaaW.PrintWords.Kd.int .i64) W A0 l0.length l0 ∧ Go.Proofs.YtpbgloppcenljaaW.PrintWords.Kd.C A.k61 W A1 l1.length l1 := by
    obtain ⟨fuel, hf⟩ := h0
    exact A.open_bolts hf
  have hv : cs0 = #[.slice A0 l0.length c0, .slice A1 l1.length c1] := by
    cases cs0
    simpa [Value.cells] using hcs
  subst hv
  clear hA0 hval0 hsz0
  obtain ⟨k, hk⟩ := Pure.FnExactAllowedStates l0 l1 hm0 hm1
  refine (A.laws_FnExactAllowedStates.calls k A0 c0 l0 A1 c1 l1 true W hr0 hc0 hr1 hc1 hk).mono fun e W' ⟨he, bel⟩ => ?_
  subst he
  exact ⟨_, rfl, _, _, _, [], _, [], hW', trodAll_mk1 (shut_bool Try.underlying4 _), (trodAll_cons_mk (Below.trod laidOut (by kernel_rfl) (of_decide_eq_true (by kernel_rfl)) k0 bel lt0) trodAll_mk0), rfl, bel.frame _, fun h => by cases h⟩
theorem over : Rows.fnExactAllowedStatesRow.holds Try.pinned (OpenSpec.ofChange Rows.fnExactAllowedStatesSpec) :=
  OpenClaim.holds_of_wide 4 Try.f4 rfl rfl rfl rfl rfl rfl rfl ⟨rfl, rfl, rfl, rfl, rfl⟩ rfl rfl rfl rfl rfl (by kernel_rfl) Try.func4 (by kernel_rfl)
    (of_decide_eq_true (by kernel_rfl)) (by unfold Func.isWrapper; first | (rw [if_pos (by decide +kernel)]; kernel_rfl) | (rw [if_neg (by decide +kernel)]; exact ⟨rfl, rfl⟩))
    (fun os started H enc _ => lifted os started H enc)
theorem proved : Rows.FnExactAllowedStatesSaid := over
#print axioms proved
end Go.Proofs.Ytpbgloppcenljaa.fnExactAllowedStates
namespace Go.Proofs.Ytpbgloppcenljaa
/-- The row, under a short name, for the claim. -/
theorem fnExactAllowedStates_holds : Rows.FnExactAllowedStatesSaid := fnExactAllowedStates.proved
end Go.Proofs.Ytpbgloppcenljaa
