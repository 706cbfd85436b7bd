/- Contracts of some functions of the program and of Go's library, in the form in which the print of the seat uses them; no statement of the program's laws. -/
import Derived.Test.YtpbgloppcenljaaProg
import Derived.Below
import Derived.Deep.Draws
import Derived.Deep.AppendLies
import Derived.Maps.AppendAt
import Derived.OwnWalk
import Derived.Laws.BytesArg
import Derived.Laws.MakeOwn
import Derived.Laws.OwnMore
import Derived.Deep.OwnRows
import Derived.Tactics
import Derived.Lib.ConvBytes
import Derived.Laws.Slices
import Derived.WalkKit
import Derived.KernelRfl
import Derived.RowKit3
import Derived.Deep.LoopGhost
import Derived.Deep.QuietTactic
import Derived.BigQuiet
import Derived.WideLaws
import Derived.Deep.DeepCutAuto
import Derived.Deep.CutBlock
import Derived.Deep.RegionHeld3
import Derived.Laws.Rows
import Derived.Lib.AppendStr
import Derived.ArgAppend
import Derived.Laws.IdiomCopy
import Derived.OrdersHeld
import Derived.Laws.BitsLemmas
import Derived.RowKit
import Derived.Test.YtpbgloppcenljaaWWords
import Derived.Test.YtpbgloppcenljaaWLast
import Derived.Test.YtpbgloppcenljaaWTab
import Derived.Test.YtpbgloppcenljaaWFour
import Derived.Test.YtpbgloppcenljaaWQPut
import Derived.Test.YtpbgloppcenljaaWApart
import Derived.Test.YtpbgloppcenljaaWArr
import Derived.Test.YtpbgloppcenljaaWZeros
import Derived.Test.YtpbgloppcenljaaWFoot
import Derived.Test.YtpbgloppcenljaaWKept
import Derived.Test.YtpbgloppcenljaaWShare
import Derived.Test.YtpbgloppcenljaaWN
import Derived.Test.YtpbgloppcenljaaWFootNe
import Derived.Test.YtpbgloppcenljaaWAt
import Derived.Test.YtpbgloppcenljaaWEqStruct
import Derived.Test.YtpbgloppcenljaaWRepsOne
import Derived.Test.YtpbgloppcenljaaWInv
import Derived.Test.YtpbgloppcenljaaWInvWords
import Derived.Test.YtpbgloppcenljaaWGuard
import Derived.Test.YtpbgloppcenljaaWNEv
import Derived.Test.YtpbgloppcenljaaWMore
import Derived.Test.YtpbgloppcenljaaAx0
import Derived.ChangeSlices
import Derived.ChangeSame
import Derived.ChangeArms
import Derived.DataElems
import Derived.DataReads
set_option linter.unusedVariables false
set_option linter.unusedSimpArgs false
namespace Go.Proofs.Ytpbgloppcenljaa.A
open Go.RowKit Go.Proofs.YtpbgloppcenljaaW.PrintWords Go.Proofs.YtpbgloppcenljaaW.PrintLast Go.Proofs.YtpbgloppcenljaaW.PrintMore

/-! ### rows among a law's arguments, opened: whatever their elements -/
section
variable {H : Type} {enc : TypeId × Value → H} {P : Program} {w : World} {base : Nat} {spare : Nat → Bool} {held : Bool}
theorem open_rowK {α : Type} (d : Kd α) {t e : TypeId} {fuel : Nat} {cs : List Value} {x : DataW H × List MemPlace} (ht : P.underlying t = some (.slice e)) (hc : P.cellsOf e = d.sz)
    (hel : ∀ n cs' y, DataW.trod enc P w base spare held n e cs' = some y → ∃ a, d.K w a cs')
    (h : DataW.trod enc P w base spare held fuel t cs = some x) :
    ∃ (A : Option Addr) (len cap : Nat) (xs : List α), cs = [.slice A len cap] ∧ len ≤ cap ∧ xs.length = len ∧ len ≤ maxLen ∧ Kd.C d w A len xs := by
  rcases DataW.trod_slice ht h with ⟨rfl, _⟩ | ⟨a, len, cap, elems, rest, n, _, rfl, _, hb, hl, hm, hlen, hel', _, _⟩
  · exact ⟨none, 0, 0, [], rfl, Nat.le_refl _, rfl, by unfold maxLen; omega, rfl, by omega, fun hp => absurd hp (by omega)⟩
  · have step : ∀ m, m ≤ len → ∃ xs : List α, xs.length = m ∧ ∀ j p, xs[j]? = some p → ∃ c, c.length = d.sz ∧ d.K w p c ∧ ∀ i u, c[i]? = some u → w.cell? (a.add (j * d.sz + i)) = some u := by
      intro m
      induction m with
      | zero => exact fun _ => ⟨[], rfl, fun j p hj => by simp at hj⟩
      | succ m ih =>
        intro hm'
        obtain ⟨xs, hxl, hxs⟩ := ih (by omega)
        have hE := hel' m (by omega)
        obtain ⟨y, hy⟩ : ∃ y, elems[m]? = some y := ⟨elems[m]'(by omega), List.getElem?_eq_getElem (by omega)⟩
        rw [hy, Option.bind_eq_some_iff] at hE
        obtain ⟨c, hcs, htr⟩ := hE
        obtain ⟨z, hz⟩ := hel n c y htr
        obtain ⟨_, hcl, hcc⟩ := World.cells?_some hcs
        rw [hc] at hcl hcc
        refine ⟨xs ++ [z], by simp [hxl], fun j p hj => ?_⟩
        by_cases hlt : j < m
        · rw [List.getElem?_append_left (by omega)] at hj
          exact hxs j p hj
        · rw [List.getElem?_append_right (by omega)] at hj
          have hjm : j = m := by
            have := (List.getElem?_eq_some_iff.1 hj).1
            simp at this
            omega
          subst hjm
          rw [hxl, Nat.sub_self] at hj
          obtain rfl := Option.some.inj hj
          refine ⟨c, hcl, hz, fun i u hi => ?_⟩
          have hi' : i < d.sz := by rw [← hcl]; exact (List.getElem?_eq_some_iff.1 hi).1
          rw [← Addr.add_add, hcc i hi', hi]
    obtain ⟨xs, hxl, hxs⟩ := step len (Nat.le_refl _)
    refine ⟨some a, len, cap, xs, rfl, hl, hxl, by omega, hxl, by unfold maxLen at hm; omega, fun _ => ⟨a, rfl, fun j p hj => ?_⟩⟩
    obtain ⟨c, h1, h2, h3⟩ := hxs j p hj
    exact ⟨c, h1, h2, h3⟩
theorem el_int {e : TypeId} (he : P.underlying e = some (.int .i64)) : ∀ n cs' y, DataW.trod enc P w base spare held n e cs' = some y → ∃ a, (Kd.int .i64).K w a cs' := by
  intro n cs' y h
  obtain ⟨m, rfl, _, _⟩ := DataW.trod_int he h
  exact ⟨m, rfl⟩
theorem el_string {e : TypeId} (he : P.underlying e = some .string) : ∀ n cs' y, DataW.trod enc P w base spare held n e cs' = some y → ∃ a, Kd.string.K w a cs' := by
  intro n cs' y h
  obtain ⟨m, rfl, _, _⟩ := DataW.trod_string he h
  exact ⟨m, rfl⟩
end

section
variable {H : Type} {enc : TypeId × Value → H} {w : World} {base : Nat} {spare : Nat → Bool} {held : Bool}
set_option maxRecDepth 100000 in
theorem el_block : ∀ n cs' y, DataW.trod enc Try.prog w base spare held n 61 cs' = some y → ∃ a, k61.K w a cs' := by
  intro n cs' y h
  obtain ⟨ys, m, _, _, hl, hlen, hf⟩ := DataW.trod_struct Try.underlying61 h
  have hc : Try.prog.cellsOf 61 = 4 := by kernel_rfl
  have hi : Try.prog.cellsOf 3 = 1 := by kernel_rfl
  rw [hc] at hl
  match cs', hl with
  | [v0, v1, v2, v3], _ =>
    have g0 := hf 0 _ rfl
    have g1 := hf 1 _ rfl
    have g2 := hf 2 _ rfl
    have g3 := hf 3 _ rfl
    replace g0 : DataW.trod enc Try.prog w base spare held m 3 (([v0, v1, v2, v3].drop 0).take (Try.prog.cellsOf 3)) = ys[0]? := g0
    rw [hi] at g0
    replace g1 : DataW.trod enc Try.prog w base spare held m 3 (([v0, v1, v2, v3].drop 1).take (Try.prog.cellsOf 3)) = ys[1]? := g1
    rw [hi] at g1
    replace g2 : DataW.trod enc Try.prog w base spare held m 3 (([v0, v1, v2, v3].drop 2).take (Try.prog.cellsOf 3)) = ys[2]? := g2
    rw [hi] at g2
    replace g3 : DataW.trod enc Try.prog w base spare held m 3 (([v0, v1, v2, v3].drop 3).take (Try.prog.cellsOf 3)) = ys[3]? := g3
    rw [hi] at g3
    have hlen' : ys.length = 4 := hlen
    rw [List.getElem?_eq_getElem (by omega)] at g0 g1 g2 g3
    obtain ⟨n0, e0, _, _⟩ := DataW.trod_int Try.underlying3 g0
    obtain ⟨n1, e1, _, _⟩ := DataW.trod_int Try.underlying3 g1
    obtain ⟨n2, e2, _, _⟩ := DataW.trod_int Try.underlying3 g2
    obtain ⟨n3, e3, _, _⟩ := DataW.trod_int Try.underlying3 g3
    injection e0 with e0 _
    injection e1 with e1 _
    injection e2 with e2 _
    injection e3 with e3 _
    subst e0; subst e1; subst e2; subst e3
    exact ⟨⟨n0, n1, n2, n3⟩, k61_mk w ⟨n0, n1, n2, n3⟩⟩
set_option maxRecDepth 100000 in
theorem open_bolts {fuel : Nat} {cs : List Value} {x : DataW H × List MemPlace} (h : DataW.trod enc Try.prog w base spare held fuel 25 cs = some x) :
    ∃ (A0 : Option Addr) (c0 : Nat) (l0 : List Int) (A1 : Option Addr) (c1 : Nat) (l1 : List S61), cs = [.slice A0 l0.length c0, .slice A1 l1.length c1] ∧ l0.length ≤ c0 ∧ l1.length ≤ c1 ∧ l0.length ≤ maxLen ∧ l1.length ≤ maxLen ∧
      Kd.C (Kd.int .i64) w A0 l0.length l0 ∧ Kd.C k61 w A1 l1.length l1 := by
  obtain ⟨ys, m, _, _, hl, hlen, hf⟩ := DataW.trod_struct Try.underlying25 h
  have hc : Try.prog.cellsOf 25 = 2 := by kernel_rfl
  have hi : Try.prog.cellsOf 22 = 1 := by kernel_rfl
  have hj : Try.prog.cellsOf 23 = 1 := by kernel_rfl
  rw [hc] at hl
  match cs, hl with
  | [v0, v1], _ =>
    have g0 := hf 0 _ rfl
    have g1 := hf 1 _ rfl
    replace g0 : DataW.trod enc Try.prog w base spare held m 22 (([v0, v1].drop 0).take (Try.prog.cellsOf 22)) = ys[0]? := g0
    replace g1 : DataW.trod enc Try.prog w base spare held m 23 (([v0, v1].drop 1).take (Try.prog.cellsOf 23)) = ys[1]? := g1
    rw [hi] at g0
    rw [hj] at g1
    have hlen' : ys.length = 2 := hlen
    rw [List.getElem?_eq_getElem (by omega)] at g0 g1
    obtain ⟨A0, n0, c0, l0, e0, h0, hl0, hm0, hC0⟩ := open_rowK (Kd.int .i64) Try.underlying22 (by kernel_rfl) (el_int Try.underlying3) g0
    obtain ⟨A1, n1, c1, l1, e1, h1, hl1, hm1, hC1⟩ := open_rowK k61 Try.underlying23 (by kernel_rfl) el_block g1
    injection e0 with e0 _
    injection e1 with e1 _
    subst e0; subst e1; subst hl0; subst hl1
    exact ⟨A0, c0, l0, A1, c1, l1, rfl, h0, h1, hm0, hm1, hC0, hC1⟩
end

end Go.Proofs.Ytpbgloppcenljaa.A
