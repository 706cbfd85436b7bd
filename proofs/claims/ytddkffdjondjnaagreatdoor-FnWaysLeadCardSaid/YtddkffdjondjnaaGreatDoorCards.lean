/-
  DERIVED. GIVEN WITH THE SEED: THE CARDS: each row of YtddkffdjondjnaaGreatDoorRows.lean that lists a variable, with what it lists TIED to the program's text (the seventh form; the later family's looks); each row that meets fmt, with fmt's text TOLD by the authors' own Lean function (tested against real Go, not proved from fmt's source: count such statements apart). THE CARD IS WHAT COUNTS. Prove the row's statement (the work); the ties are given (YtddkffdjondjnaaGreatDoorTie.lean); close each card by the builder's one call (the guide's Derived/Test/ToyasCard.lean, 'card_holds'). Laid BY PROGRAM, IN A SANDBOX (cutbox-door.mjs). By AI agents, Wed Nov 11 2026. No macro, syntax, notation, axiom, sorry.
-/
import Derived.Test.YtddkffdjondjnaaGreatDoorRows
import GoSem.ClaimSeven
namespace Go.Proofs.YtddkffdjondjnaaGreatDoor
namespace Rows

/-- THE TIED CARD OF 'laws.FnWaysLead'. -/
def fnWaysLeadCard : Claim7 := { stood := { row := fnWaysLeadRow, standIns := [], harness := (true, "b5ab74c9814d140320b5d9d6087eef9aa7acd5d02b87fd018474fc9f09d3ff9a"), looks := false }, kinds := [], alts := [], laidByText := true, laidKinds := [.data, .pinned], laidTests := true, laidLooks := .later }
def FnWaysLeadCardSaid : Prop := Claim7.holds Tryz.pinned (.plain (OpenSpec.ofChange fnWaysLeadSpec)) fnWaysLeadCard

/-- THE SECOND FORM's CARD OF 'laws.FnWaysLead'. -/
def fnWaysLeadUptoCard : Claim7 := { stood := { row := fnWaysLeadUptoRow, standIns := [], harness := (true, "b5ab74c9814d140320b5d9d6087eef9aa7acd5d02b87fd018474fc9f09d3ff9a"), looks := false }, kinds := [], alts := [], laidByText := true, laidKinds := [.data, .pinned], laidTests := true, laidLooks := .later }
def FnWaysLeadUptoCardSaid : Prop := Claim7.holds Tryz.pinned (.plain (OpenSpec.upto fnWaysLeadSpec)) fnWaysLeadUptoCard
end Rows
end Go.Proofs.YtddkffdjondjnaaGreatDoor
