/- The law FnExactCountOn, told over plain functions, holds for all arguments; no condition beyond the kinds of the numbers and the texts' sizes that any argument has. -/
import Derived.Test.YtaohdkpboajbhaaDoorAE
import Derived.Test.YtaohdkpboajbhaaDoorAx1
import Derived.Test.YtaohdkpboajbhaaDoorRing
set_option linter.unusedVariables false
set_option linter.unusedSimpArgs false
namespace Go.Proofs.YtaohdkpboajbhaaDoor.Pure
open Go.RowKit Go.Proofs.YtaohdkpboajbhaaDoor.A Go.Proofs.YtaohdkpboajbhaaDoorW.PrintWords Go.Proofs.YtaohdkpboajbhaaDoorW.PrintLast Go.Proofs.YtaohdkpboajbhaaDoorW.PrintMore

theorem FnExactCountOn : laws_FnExactCountOn.Pure := by
  intro s hs
  refine ⟨100, ?_⟩
  unfold laws_FnExactCountOn.f spec_CountOn.f impl_CountOn.f
  rcases stateCases s with ⟨a, rfl, ha⟩ | ⟨l, rfl, hl⟩
  · rw [riGood_sb ha.1 ha.2 (by omega), isState_sb ha.1 ha.2]
    have h1 : spec_riOn.f 100 (sb a) = some (((a.map sg).count 49 : Nat) : Int) := riOn (by simp; omega) (by simp; omega)
    have h2 : strings_Count.f (sb a) (⟨#[49]⟩ : ByteArray) = some (((a.map sg).count 49 : Nat) : Int) := by
      unfold strings_Count.f
      have hc : ∀ l : List UInt8, Lib.countByte l 49 = l.count 49 := fun l => by
        first | rfl | (induction l with
        | nil => rfl
        | cons x l ih => simp [Lib.countByte, List.count_cons, ih]) | skip
      rw [if_pos (show (⟨#[49]⟩ : ByteArray).size = 1 from rfl), sb, tx_data]
      exact congrArg (fun n : Nat => some (n : Int)) (hc _)
    rw [h1, h2]
    simp
  · rw [tx_size] at hs
    rw [riGood (by omega), isState hs, hl]
    simp

end Go.Proofs.YtaohdkpboajbhaaDoor.Pure
