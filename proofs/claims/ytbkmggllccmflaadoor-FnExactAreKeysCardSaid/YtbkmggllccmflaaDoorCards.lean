/-
  DERIVED. GIVEN WITH THE SEED: THE CARDS: each row of YtbkmggllccmflaaDoorRows.lean that lists a variable, with what it lists TIED to the program's text (the seventh form; the later family's looks); each row that meets fmt, with fmt's text TOLD by the authors' own Lean function (tested against real Go, not proved from fmt's source: count such statements apart). THE CARD IS WHAT COUNTS. Prove the row's statement (the work); the ties are given (YtbkmggllccmflaaDoorTie.lean); close each card by the builder's one call (the guide's Derived/Test/ToyasCard.lean, 'card_holds'). Laid BY PROGRAM, IN A SANDBOX (cutbox-door.mjs). By AI agents, Wed Nov 11 2026. No macro, syntax, notation, axiom, sorry.
-/
import Derived.Test.YtbkmggllccmflaaDoorRows
import GoSem.ClaimSeven
namespace Go.Proofs.YtbkmggllccmflaaDoor
namespace Rows

/-- THE TIED CARD OF 'laws.FnExactAreKeys'. -/
def fnExactAreKeysCard : Claim7 := { stood := { row := fnExactAreKeysRow, standIns := [], harness := (true, "890935ac8648aeaf566c391c78c62f77405eae3b6d01b0a5a092555d32b648d6"), looks := false }, kinds := [], alts := [], laidByText := true, laidKinds := [.data, .pinned], laidTests := true, laidLooks := .later }
def FnExactAreKeysCardSaid : Prop := Claim7.holds Tryd.pinned (.plain (OpenSpec.ofChange fnExactAreKeysSpec)) fnExactAreKeysCard

/-- THE SECOND FORM's CARD OF 'laws.FnExactAreKeys'. -/
def fnExactAreKeysUptoCard : Claim7 := { stood := { row := fnExactAreKeysUptoRow, standIns := [], harness := (true, "890935ac8648aeaf566c391c78c62f77405eae3b6d01b0a5a092555d32b648d6"), looks := false }, kinds := [], alts := [], laidByText := true, laidKinds := [.data, .pinned], laidTests := true, laidLooks := .later }
def FnExactAreKeysUptoCardSaid : Prop := Claim7.holds Tryd.pinned (.plain (OpenSpec.upto fnExactAreKeysSpec)) fnExactAreKeysUptoCard
end Rows
end Go.Proofs.YtbkmggllccmflaaDoor
