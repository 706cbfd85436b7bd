/- Contracts of some functions of the program and of Go's library, in the form in which the print of the seat uses them; no statement of the program's laws. -/
import Derived.Test.YtbkmggllccmflaaDoorProg
import Derived.Below
import Derived.Deep.Draws
import Derived.Deep.AppendLies
import Derived.Maps.AppendAt
import Derived.OwnWalk
import Derived.Laws.BytesArg
import Derived.Laws.MakeOwn
import Derived.Laws.OwnMore
import Derived.Deep.OwnRows
import Derived.Tactics
import Derived.Lib.ConvBytes
import Derived.Laws.Slices
import Derived.WalkKit
import Derived.KernelRfl
import Derived.RowKit3
import Derived.Deep.LoopGhost
import Derived.Deep.QuietTactic
import Derived.BigQuiet
import Derived.WideLaws
import Derived.Deep.DeepCutAuto
import Derived.Deep.CutBlock
import Derived.Deep.RegionHeld3
import Derived.Laws.Rows
import Derived.Lib.AppendStr
import Derived.ArgAppend
import Derived.Laws.IdiomCopy
import Derived.OrdersHeld
import Derived.Laws.BitsLemmas
import Derived.RowKit
import Derived.Test.YtbkmggllccmflaaDoorWWords
import Derived.Test.YtbkmggllccmflaaDoorWLast
import Derived.Test.YtbkmggllccmflaaDoorWTab
import Derived.Test.YtbkmggllccmflaaDoorWFour
import Derived.Test.YtbkmggllccmflaaDoorWQPut
import Derived.Test.YtbkmggllccmflaaDoorWApart
import Derived.Test.YtbkmggllccmflaaDoorWArr
import Derived.Test.YtbkmggllccmflaaDoorWZeros
import Derived.Test.YtbkmggllccmflaaDoorWFoot
import Derived.Test.YtbkmggllccmflaaDoorWKept
import Derived.Test.YtbkmggllccmflaaDoorWShare
import Derived.Test.YtbkmggllccmflaaDoorWN
import Derived.Test.YtbkmggllccmflaaDoorWFootNe
import Derived.Test.YtbkmggllccmflaaDoorWAt
import Derived.Test.YtbkmggllccmflaaDoorWEqStruct
import Derived.Test.YtbkmggllccmflaaDoorWRepsOne
import Derived.Test.YtbkmggllccmflaaDoorWInv
import Derived.Test.YtbkmggllccmflaaDoorWInvWords
import Derived.Test.YtbkmggllccmflaaDoorWGuard
import Derived.Test.YtbkmggllccmflaaDoorWNEv
import Derived.Test.YtbkmggllccmflaaDoorWMore
import Derived.Test.YtbkmggllccmflaaDoorAx0
import Derived.ChangeSlices
import Derived.ChangeSame
import Derived.ChangeArms
import Derived.DataElems
import Derived.DataReads
set_option linter.unusedVariables false
set_option linter.unusedSimpArgs false
namespace Go.Proofs.YtbkmggllccmflaaDoor.A
open Go.RowKit Go.Proofs.YtbkmggllccmflaaDoorW.PrintWords Go.Proofs.YtbkmggllccmflaaDoorW.PrintLast Go.Proofs.YtbkmggllccmflaaDoorW.PrintMore

/-! ### a row of texts among a law's arguments, opened -/
section
variable {H : Type} {enc : TypeId × Value → H} {P : Program} {w : World} {base : Nat} {spare : Nat → Bool} {held : Bool}
theorem open_rowQ {α : Type} (d : Kd α) (Q : α → Prop) {t e : TypeId} {fuel : Nat} {cs : List Value} {x : DataW H × List MemPlace} (ht : P.underlying t = some (.slice e)) (hc : P.cellsOf e = d.sz)
    (hel : ∀ n cs' y, DataW.trod enc P w base spare held n e cs' = some y → ∃ a, d.K w a cs' ∧ Q a)
    (h : DataW.trod enc P w base spare held fuel t cs = some x) :
    ∃ (A : Option Addr) (len cap : Nat) (xs : List α), cs = [.slice A len cap] ∧ len ≤ cap ∧ xs.length = len ∧ len ≤ maxLen ∧ Kd.C d w A len xs ∧ ∀ a ∈ xs, Q a := by
  rcases DataW.trod_slice ht h with ⟨rfl, _⟩ | ⟨a, len, cap, elems, rest, n, _, rfl, _, hb, hl, hm, hlen, hel', _, _⟩
  · exact ⟨none, 0, 0, [], rfl, Nat.le_refl _, rfl, by unfold maxLen; omega, ⟨rfl, by omega, fun hp => absurd hp (by omega)⟩, fun a ha => by simp at ha⟩
  · have step : ∀ m, m ≤ len → ∃ xs : List α, xs.length = m ∧ (∀ a ∈ xs, Q a) ∧ ∀ j p, xs[j]? = some p → ∃ c, c.length = d.sz ∧ d.K w p c ∧ ∀ i u, c[i]? = some u → w.cell? (a.add (j * d.sz + i)) = some u := by
      intro m
      induction m with
      | zero => exact fun _ => ⟨[], rfl, fun a ha => by simp at ha, fun j p hj => by simp at hj⟩
      | succ m ih =>
        intro hm'
        obtain ⟨xs, hxl, hxq, hxs⟩ := ih (by omega)
        have hE := hel' m (by omega)
        obtain ⟨y, hy⟩ : ∃ y, elems[m]? = some y := ⟨elems[m]'(by omega), List.getElem?_eq_getElem (by omega)⟩
        rw [hy, Option.bind_eq_some_iff] at hE
        obtain ⟨c, hcs, htr⟩ := hE
        obtain ⟨z, hz, hzq⟩ := hel n c y htr
        obtain ⟨_, hcl, hcc⟩ := World.cells?_some hcs
        rw [hc] at hcl hcc
        refine ⟨xs ++ [z], by simp [hxl], fun a ha => ?_, fun j p hj => ?_⟩
        · rcases List.mem_append.1 ha with ha | ha
          · exact hxq a ha
          · have : a = z := by simpa using ha
            subst this; exact hzq
        by_cases hlt : j < m
        · rw [List.getElem?_append_left (by omega)] at hj
          exact hxs j p hj
        · rw [List.getElem?_append_right (by omega)] at hj
          have hjm : j = m := by
            have := (List.getElem?_eq_some_iff.1 hj).1
            simp at this
            omega
          subst hjm
          rw [hxl, Nat.sub_self] at hj
          obtain rfl := Option.some.inj hj
          refine ⟨c, hcl, hz, fun i u hi => ?_⟩
          have hi' : i < d.sz := by rw [← hcl]; exact (List.getElem?_eq_some_iff.1 hi).1
          rw [← Addr.add_add, hcc i hi', hi]
    obtain ⟨xs, hxl, hxq, hxs⟩ := step len (Nat.le_refl _)
    refine ⟨some a, len, cap, xs, rfl, hl, hxl, by omega, ⟨hxl, by unfold maxLen at hm; omega, fun _ => ⟨a, rfl, fun j p hj => ?_⟩⟩, hxq⟩
    obtain ⟨c, h1, h2, h3⟩ := hxs j p hj
    exact ⟨c, h1, h2, h3⟩
theorem open_texts {t e : TypeId} {fuel : Nat} {cs : List Value} {x : DataW H × List MemPlace} (ht : P.underlying t = some (.slice e)) (he : P.underlying e = some .string) (hc : P.cellsOf e = 1)
    (h : DataW.trod enc P w base spare held fuel t cs = some x) :
    ∃ (A : Option Addr) (c : Nat) (l : List ByteArray), cs = [.slice A l.length c] ∧ l.length ≤ c ∧ l.length ≤ maxLen ∧ Kd.C Kd.string w A l.length l ∧ ∀ s ∈ l, s.size ≤ maxLen := by
  obtain ⟨A, len, c, l, rfl, h1, rfl, h2, h3, h4⟩ := open_rowQ Kd.string (fun s => s.size ≤ maxLen) ht hc (fun n cs' y h => by
    obtain ⟨m, rfl, _, hm⟩ := DataW.trod_string he h
    exact ⟨m, rfl, hm⟩) h
  exact ⟨A, c, l, rfl, h1, h2, h3, h4⟩
end

end Go.Proofs.YtbkmggllccmflaaDoor.A
