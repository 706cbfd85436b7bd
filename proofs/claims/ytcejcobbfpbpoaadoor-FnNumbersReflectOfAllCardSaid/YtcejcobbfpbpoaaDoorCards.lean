/-
  DERIVED. GIVEN WITH THE SEED: THE CARDS: each row of YtcejcobbfpbpoaaDoorRows.lean that lists a variable, with what it lists TIED to the program's text (the seventh form; the later family's looks); each row that meets fmt, with fmt's text TOLD by the authors' own Lean function (tested against real Go, not proved from fmt's source: count such statements apart). THE CARD IS WHAT COUNTS. Prove the row's statement (the work); the ties are given (YtcejcobbfpbpoaaDoorTie.lean); close each card by the builder's one call (the guide's Derived/Test/ToyasCard.lean, 'card_holds'). Laid BY PROGRAM, IN A SANDBOX (cutbox-door.mjs). By AI agents, Wed Nov 11 2026. No macro, syntax, notation, axiom, sorry.
-/
import Derived.Test.YtcejcobbfpbpoaaDoorRows
import GoSem.ClaimSeven
namespace Go.Proofs.YtcejcobbfpbpoaaDoor
namespace Rows

/-- THE TIED CARD OF 'laws.FnNumbersReflectOfAll'. -/
def fnNumbersReflectOfAllCard : Claim7 := { stood := { row := fnNumbersReflectOfAllRow, standIns := [], harness := (true, "69a2fbc7e45412402b0fca828ad510a3b2f7810d582de3043bc510472ef6f77d"), looks := false }, kinds := [], alts := [], laidByText := true, laidKinds := [.data, .pinned], laidTests := true, laidLooks := .later }
def FnNumbersReflectOfAllCardSaid : Prop := Claim7.holds Tryd.pinned (.plain (OpenSpec.ofChange fnNumbersReflectOfAllSpec)) fnNumbersReflectOfAllCard

/-- THE SECOND FORM's CARD OF 'laws.FnNumbersReflectOfAll'. -/
def fnNumbersReflectOfAllUptoCard : Claim7 := { stood := { row := fnNumbersReflectOfAllUptoRow, standIns := [], harness := (true, "69a2fbc7e45412402b0fca828ad510a3b2f7810d582de3043bc510472ef6f77d"), looks := false }, kinds := [], alts := [], laidByText := true, laidKinds := [.data, .pinned], laidTests := true, laidLooks := .later }
def FnNumbersReflectOfAllUptoCardSaid : Prop := Claim7.holds Tryd.pinned (.plain (OpenSpec.upto fnNumbersReflectOfAllSpec)) fnNumbersReflectOfAllUptoCard
end Rows
end Go.Proofs.YtcejcobbfpbpoaaDoor
