/-
  DERIVED. GIVEN WITH THE SEED: THE CARDS: each row of YtbklkcfmlmneaaaDoorRows.lean that lists a variable, with what it lists TIED to the program's text (the seventh form; the later family's looks); each row that meets fmt, with fmt's text TOLD by the authors' own Lean function (tested against real Go, not proved from fmt's source: count such statements apart). THE CARD IS WHAT COUNTS. Prove the row's statement (the work); the ties are given (YtbklkcfmlmneaaaDoorTie.lean); close each card by the builder's one call (the guide's Derived/Test/ToyasCard.lean, 'card_holds'). Laid BY PROGRAM, IN A SANDBOX (cutbox-door.mjs). By AI agents, Wed Nov 11 2026. No macro, syntax, notation, axiom, sorry.
-/
import Derived.Test.YtbklkcfmlmneaaaDoorRows
import GoSem.ClaimSeven
namespace Go.Proofs.YtbklkcfmlmneaaaDoor
namespace Rows

/-- THE TIED CARD OF 'laws.FnRingsMove'. -/
def fnRingsMoveCard : Claim7 := { stood := { row := fnRingsMoveRow, standIns := [], harness := (true, "c93fedca447352b4ea81d943d734880d02d688af0b0c3a3eca47a65384164f0c"), looks := false }, kinds := [], alts := [], laidByText := true, laidKinds := [.data, .pinned], laidTests := true, laidLooks := .later }
def FnRingsMoveCardSaid : Prop := Claim7.holds Tryd.pinned (.plain (OpenSpec.ofChange fnRingsMoveSpec)) fnRingsMoveCard

/-- THE SECOND FORM's CARD OF 'laws.FnRingsMove'. -/
def fnRingsMoveUptoCard : Claim7 := { stood := { row := fnRingsMoveUptoRow, standIns := [], harness := (true, "c93fedca447352b4ea81d943d734880d02d688af0b0c3a3eca47a65384164f0c"), looks := false }, kinds := [], alts := [], laidByText := true, laidKinds := [.data, .pinned], laidTests := true, laidLooks := .later }
def FnRingsMoveUptoCardSaid : Prop := Claim7.holds Tryd.pinned (.plain (OpenSpec.upto fnRingsMoveSpec)) fnRingsMoveUptoCard
end Rows
end Go.Proofs.YtbklkcfmlmneaaaDoor
