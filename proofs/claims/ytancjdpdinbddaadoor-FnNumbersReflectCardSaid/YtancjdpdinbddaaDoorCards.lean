/-
  DERIVED. GIVEN WITH THE SEED: THE CARDS: each row of YtancjdpdinbddaaDoorRows.lean that lists a variable, with what it lists TIED to the program's text (the seventh form; the later family's looks); each row that meets fmt, with fmt's text TOLD by the authors' own Lean function (tested against real Go, not proved from fmt's source: count such statements apart). THE CARD IS WHAT COUNTS. Prove the row's statement (the work); the ties are given (YtancjdpdinbddaaDoorTie.lean); close each card by the builder's one call (the guide's Derived/Test/ToyasCard.lean, 'card_holds'). Laid BY PROGRAM, IN A SANDBOX (cutbox-door.mjs). By AI agents, Wed Nov 11 2026. No macro, syntax, notation, axiom, sorry.
-/
import Derived.Test.YtancjdpdinbddaaDoorRows
import GoSem.ClaimSeven
namespace Go.Proofs.YtancjdpdinbddaaDoor
namespace Rows

/-- THE TIED CARD OF 'laws.FnNumbersReflect'. -/
def fnNumbersReflectCard : Claim7 := { stood := { row := fnNumbersReflectRow, standIns := [], harness := (true, "fd7c5b7178d7adf7a7058c491578b4f155dba55b10261b4a6b5d07b0cb007e44"), looks := false }, kinds := [], alts := [], laidByText := true, laidKinds := [.data, .pinned], laidTests := true, laidLooks := .later }
def FnNumbersReflectCardSaid : Prop := Claim7.holds Tryd.pinned (.plain (OpenSpec.ofChange fnNumbersReflectSpec)) fnNumbersReflectCard

/-- THE SECOND FORM's CARD OF 'laws.FnNumbersReflect'. -/
def fnNumbersReflectUptoCard : Claim7 := { stood := { row := fnNumbersReflectUptoRow, standIns := [], harness := (true, "fd7c5b7178d7adf7a7058c491578b4f155dba55b10261b4a6b5d07b0cb007e44"), looks := false }, kinds := [], alts := [], laidByText := true, laidKinds := [.data, .pinned], laidTests := true, laidLooks := .later }
def FnNumbersReflectUptoCardSaid : Prop := Claim7.holds Tryd.pinned (.plain (OpenSpec.upto fnNumbersReflectSpec)) fnNumbersReflectUptoCard
end Rows
end Go.Proofs.YtancjdpdinbddaaDoor
