/-
  DERIVED. GIVEN WITH THE SEED: THE CARDS: each row of YtlkkkkmkaghnkaaDoorRows.lean that lists a variable, with what it lists TIED to the program's text (the seventh form; the later family's looks); each row that meets fmt, with fmt's text TOLD by the authors' own Lean function (tested against real Go, not proved from fmt's source: count such statements apart). THE CARD IS WHAT COUNTS. Prove the row's statement (the work); the ties are given (YtlkkkkmkaghnkaaDoorTie.lean); close each card by the builder's one call (the guide's Derived/Test/ToyasCard.lean, 'card_holds'). Laid BY PROGRAM, IN A SANDBOX (cutbox-door.mjs). By AI agents, Wed Nov 11 2026. No macro, syntax, notation, axiom, sorry.
-/
import Derived.Test.YtlkkkkmkaghnkaaDoorRows
import GoSem.ClaimSeven
namespace Go.Proofs.YtlkkkkmkaghnkaaDoor
namespace Rows

/-- THE TIED CARD OF 'laws.FnWaysLeadOfAll'. -/
def fnWaysLeadOfAllCard : Claim7 := { stood := { row := fnWaysLeadOfAllRow, standIns := [], harness := (true, "4922ac42aa90f5dd61b0c0fc48e36c4ddfa7725a1869e592ebc8d4297bf0d4cd"), looks := false }, kinds := [], alts := [], laidByText := true, laidKinds := [.data, .pinned], laidTests := true, laidLooks := .later }
def FnWaysLeadOfAllCardSaid : Prop := Claim7.holds Tryd.pinned (.plain (OpenSpec.ofChange fnWaysLeadOfAllSpec)) fnWaysLeadOfAllCard

/-- THE SECOND FORM's CARD OF 'laws.FnWaysLeadOfAll'. -/
def fnWaysLeadOfAllUptoCard : Claim7 := { stood := { row := fnWaysLeadOfAllUptoRow, standIns := [], harness := (true, "4922ac42aa90f5dd61b0c0fc48e36c4ddfa7725a1869e592ebc8d4297bf0d4cd"), looks := false }, kinds := [], alts := [], laidByText := true, laidKinds := [.data, .pinned], laidTests := true, laidLooks := .later }
def FnWaysLeadOfAllUptoCardSaid : Prop := Claim7.holds Tryd.pinned (.plain (OpenSpec.upto fnWaysLeadOfAllSpec)) fnWaysLeadOfAllUptoCard
end Rows
end Go.Proofs.YtlkkkkmkaghnkaaDoor
