/-
  DERIVED. GIVEN WITH THE SEED: THE CARDS: each row of YtfcphekdimeodaaDoorRows.lean that lists a variable, with what it lists TIED to the program's text (the seventh form; the later family's looks); each row that meets fmt, with fmt's text TOLD by the authors' own Lean function (tested against real Go, not proved from fmt's source: count such statements apart). THE CARD IS WHAT COUNTS. Prove the row's statement (the work); the ties are given (YtfcphekdimeodaaDoorTie.lean); close each card by the builder's one call (the guide's Derived/Test/ToyasCard.lean, 'card_holds'). Laid BY PROGRAM, IN A SANDBOX (cutbox-door.mjs). By AI agents, Wed Nov 11 2026. No macro, syntax, notation, axiom, sorry.
-/
import Derived.Test.YtfcphekdimeodaaDoorRows
import GoSem.ClaimSeven
namespace Go.Proofs.YtfcphekdimeodaaDoor
namespace Rows

/-- THE TIED CARD OF 'laws.FnExactParseBolts'. -/
def fnExactParseBoltsCard : Claim7 := { stood := { row := fnExactParseBoltsRow, standIns := [], harness := (true, "d721347bd01ad3eaa5ba80da47c10691cead42f782114f5939cec08f16f2ace9"), looks := false }, kinds := [], alts := [], laidByText := true, laidKinds := [.data, .pinned], laidTests := true, laidLooks := .later }
def FnExactParseBoltsCardSaid : Prop := Claim7.holds Tryd.pinned (.plain (OpenSpec.ofChange fnExactParseBoltsSpec)) fnExactParseBoltsCard

/-- THE SECOND FORM's CARD OF 'laws.FnExactParseBolts'. -/
def fnExactParseBoltsUptoCard : Claim7 := { stood := { row := fnExactParseBoltsUptoRow, standIns := [], harness := (true, "d721347bd01ad3eaa5ba80da47c10691cead42f782114f5939cec08f16f2ace9"), looks := false }, kinds := [], alts := [], laidByText := true, laidKinds := [.data, .pinned], laidTests := true, laidLooks := .later }
def FnExactParseBoltsUptoCardSaid : Prop := Claim7.holds Tryd.pinned (.plain (OpenSpec.upto fnExactParseBoltsSpec)) fnExactParseBoltsUptoCard
end Rows
end Go.Proofs.YtfcphekdimeodaaDoor
