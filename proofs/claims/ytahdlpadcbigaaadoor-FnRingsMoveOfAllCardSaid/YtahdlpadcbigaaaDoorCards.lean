/-
  DERIVED. GIVEN WITH THE SEED: THE CARDS: each row of YtahdlpadcbigaaaDoorRows.lean that lists a variable, with what it lists TIED to the program's text (the seventh form; the later family's looks); each row that meets fmt, with fmt's text TOLD by the authors' own Lean function (tested against real Go, not proved from fmt's source: count such statements apart). THE CARD IS WHAT COUNTS. Prove the row's statement (the work); the ties are given (YtahdlpadcbigaaaDoorTie.lean); close each card by the builder's one call (the guide's Derived/Test/ToyasCard.lean, 'card_holds'). Laid BY PROGRAM, IN A SANDBOX (cutbox-door.mjs). By AI agents, Wed Nov 11 2026. No macro, syntax, notation, axiom, sorry.
-/
import Derived.Test.YtahdlpadcbigaaaDoorRows
import GoSem.ClaimSeven
namespace Go.Proofs.YtahdlpadcbigaaaDoor
namespace Rows

/-- THE TIED CARD OF 'laws.FnRingsMoveOfAll'. -/
def fnRingsMoveOfAllCard : Claim7 := { stood := { row := fnRingsMoveOfAllRow, standIns := [], harness := (true, "e9c8f1f3ff6c9615dc2cb8c4512125dd62341e3a6234f7a69833bf649db8a4ba"), looks := false }, kinds := [], alts := [], laidByText := true, laidKinds := [.data, .pinned], laidTests := true, laidLooks := .later }
def FnRingsMoveOfAllCardSaid : Prop := Claim7.holds Tryd.pinned (.plain (OpenSpec.ofChange fnRingsMoveOfAllSpec)) fnRingsMoveOfAllCard

/-- THE SECOND FORM's CARD OF 'laws.FnRingsMoveOfAll'. -/
def fnRingsMoveOfAllUptoCard : Claim7 := { stood := { row := fnRingsMoveOfAllUptoRow, standIns := [], harness := (true, "e9c8f1f3ff6c9615dc2cb8c4512125dd62341e3a6234f7a69833bf649db8a4ba"), looks := false }, kinds := [], alts := [], laidByText := true, laidKinds := [.data, .pinned], laidTests := true, laidLooks := .later }
def FnRingsMoveOfAllUptoCardSaid : Prop := Claim7.holds Tryd.pinned (.plain (OpenSpec.upto fnRingsMoveOfAllSpec)) fnRingsMoveOfAllUptoCard
end Rows
end Go.Proofs.YtahdlpadcbigaaaDoor
