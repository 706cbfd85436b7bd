/- The law FnExactBoltsText, told over plain functions, holds for all arguments whose rows are no longer than a row can be. -/
import Derived.Test.YtclomifkpciefaaCx0
import Derived.Test.YtclomifkpciefaaCx7
import Derived.Test.YtclomifkpciefaaCx8
import Derived.Test.YtclomifkpciefaaCText
set_option linter.unusedVariables false
set_option linter.unusedSimpArgs false
namespace Go.Proofs.Ytclomifkpciefaa.Pure
open Go.RowKit Go.Proofs.Ytclomifkpciefaa.C Go.Proofs.YtclomifkpciefaaW.PrintWords Go.Proofs.YtclomifkpciefaaW.PrintLast Go.Proofs.YtclomifkpciefaaW.PrintMore

theorem boltsText (l0 : List Int) (l1 : List S67) (h0 : l0.length ≤ 1048576) (h1 : l1.length ≤ 1048576) : ∃ (r : ByteArray) (b : Bool), ∀ k, l0.length + l1.length + 20 < k → spec_BoltsText.f k l0 l1 = some (r, b) ∧ impl_BoltsText.f k l0 l1 = some (r, b) := by
  cases hg : gd l0 l1 with
  | false =>
    refine ⟨⟨#[]⟩, false, fun k hk => ?_⟩
    unfold spec_BoltsText.f impl_BoltsText.f
    rw [boGood (by omega) (by omega) (by omega), areBolts (by omega) (by omega), hg]
    exact ⟨rfl, rfl⟩
  | true =>
    obtain ⟨hl, hp, hb, ho⟩ := gd_facts hg
    have hd : ∀ x ∈ l1, dgs x := fun x hx => ob_dgs hl.2 hp (ho x hx)
    refine ⟨strOfNums (l0.map dg ++ l1.flatMap bs), true, fun k hk => ?_⟩
    unfold spec_BoltsText.f impl_BoltsText.f spec_boText.f
    rw [boGood (by omega) (by omega) (by omega), areBolts (by omega) (by omega), hg, digits (by omega) (by omega)]
    have e1 := boText_l0 (l0 := l0) (l1 := l1) (by omega) (by omega) hd l0 k 0 [] (by simp) (fun x hx => by have := hp x hx; omega) (by simp) (by omega) (by omega)
    have e2 := implText_l0 (l := l1) (by omega) l1 k 0 (l0.map dg) (by simp) hd (by simp; omega) (by omega)
    have e1' : spec_boText.l0 k (⟨#[]⟩ : ByteArray) l0 (l0.length : Int) 0 l0 l1 = some (strOfNums (l0.map dg ++ l1.flatMap bs)) := by
      rw [List.nil_append] at e1
      exact e1
    have e2' : impl_BoltsText.l0 k (strOfNums (l0.map dg)) l1 (l1.length : Int) 0 = some (strOfNums (l0.map dg ++ l1.flatMap bs), true) := e2
    simp only [Option.bind_some, if_true, e1', e2']
    exact ⟨trivial, trivial⟩
theorem FnExactBoltsText (l0 : List Int) (l1 : List S91) (h0 : l0.length ≤ maxLen) (h1 : l1.length ≤ maxLen) : ∃ k, laws_FnExactBoltsText.f k l0 l1 = some true := by
  obtain ⟨t, ht, hc⟩ := szBolts l0 l1 h0 h1
  refine ⟨l0.length + l1.length + 100, ?_⟩
  unfold laws_FnExactBoltsText.f
  rw [ht]
  simp only [Option.bind_some]
  rcases hc with hc | ⟨hc, hl⟩
  · rw [if_pos hc]
  · obtain ⟨r, b, H⟩ := boltsText l0 (l1.map cv) (by omega) (by rw [List.length_map]; omega)
    rw [List.length_map] at H
    obtain ⟨k, hk⟩ : ∃ k, l0.length + l1.length + 100 = k + 1 := ⟨l0.length + l1.length + 99, by omega⟩
    rw [if_neg (by omega), toBolts (by omega) (by omega) (by omega)]
    simp only [Option.bind_some]
    rw [(H _ (by omega)).1, (H _ (by omega)).2, hk]
    simp only [Option.bind_some, bne_self_eq_false, Bool.false_eq_true, if_false, if_true, laws_FnExactBoltsText.j0]
    rw [toBolts (by omega) (by omega) (by omega)]
    simp only [Option.bind_some]
    rw [eqBolts (by omega) (by rw [List.length_map]; omega) (by rw [List.length_map]; omega)]
    simp

end Go.Proofs.Ytclomifkpciefaa.Pure
