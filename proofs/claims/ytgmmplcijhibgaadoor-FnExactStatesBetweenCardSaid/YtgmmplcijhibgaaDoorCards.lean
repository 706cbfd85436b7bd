/-
  DERIVED. GIVEN WITH THE SEED: THE CARDS: each row of YtgmmplcijhibgaaDoorRows.lean that lists a variable, with what it lists TIED to the program's text (the seventh form; the later family's looks); each row that meets fmt, with fmt's text TOLD by the authors' own Lean function (tested against real Go, not proved from fmt's source: count such statements apart). THE CARD IS WHAT COUNTS. Prove the row's statement (the work); the ties are given (YtgmmplcijhibgaaDoorTie.lean); close each card by the builder's one call (the guide's Derived/Test/ToyasCard.lean, 'card_holds'). Laid BY PROGRAM, IN A SANDBOX (cutbox-door.mjs). By AI agents, Wed Nov 11 2026. No macro, syntax, notation, axiom, sorry.
-/
import Derived.Test.YtgmmplcijhibgaaDoorRows
import GoSem.ClaimSeven
namespace Go.Proofs.YtgmmplcijhibgaaDoor
namespace Rows

/-- THE TIED CARD OF 'laws.FnRingsMove'. -/
def fnRingsMoveCard : Claim7 := { stood := { row := fnRingsMoveRow, standIns := [], harness := (true, "e62debe85003246c1c01e889648ad4dc0118a2264d1600c7bce991d3e6d9f9fd"), looks := false }, kinds := [], alts := [], laidByText := true, laidKinds := [.data, .pinned], laidTests := true, laidLooks := .later }
def FnRingsMoveCardSaid : Prop := Claim7.holds Tryd.pinned (.plain (OpenSpec.ofChange fnRingsMoveSpec)) fnRingsMoveCard

/-- THE TIED CARD OF 'laws.FnWaysLeadOfAll'. -/
def fnWaysLeadOfAllCard : Claim7 := { stood := { row := fnWaysLeadOfAllRow, standIns := [], harness := (true, "e62debe85003246c1c01e889648ad4dc0118a2264d1600c7bce991d3e6d9f9fd"), looks := false }, kinds := [], alts := [], laidByText := true, laidKinds := [.data, .pinned], laidTests := true, laidLooks := .later }
def FnWaysLeadOfAllCardSaid : Prop := Claim7.holds Tryd.pinned (.plain (OpenSpec.ofChange fnWaysLeadOfAllSpec)) fnWaysLeadOfAllCard

/-- THE TIED CARD OF 'laws.FnExactRankOfText'. -/
def fnExactRankOfTextCard : Claim7 := { stood := { row := fnExactRankOfTextRow, standIns := [], harness := (true, "e62debe85003246c1c01e889648ad4dc0118a2264d1600c7bce991d3e6d9f9fd"), looks := false }, kinds := [], alts := [], laidByText := true, laidKinds := [.data, .pinned], laidTests := true, laidLooks := .later }
def FnExactRankOfTextCardSaid : Prop := Claim7.holds Tryd.pinned (.plain (OpenSpec.ofChange fnExactRankOfTextSpec)) fnExactRankOfTextCard

/-- THE TIED CARD OF 'laws.FnExactAreKeys'. -/
def fnExactAreKeysCard : Claim7 := { stood := { row := fnExactAreKeysRow, standIns := [], harness := (true, "e62debe85003246c1c01e889648ad4dc0118a2264d1600c7bce991d3e6d9f9fd"), looks := false }, kinds := [], alts := [], laidByText := true, laidKinds := [.data, .pinned], laidTests := true, laidLooks := .later }
def FnExactAreKeysCardSaid : Prop := Claim7.holds Tryd.pinned (.plain (OpenSpec.ofChange fnExactAreKeysSpec)) fnExactAreKeysCard

/-- THE TIED CARD OF 'laws.FnExactMakePairMove'. -/
def fnExactMakePairMoveCard : Claim7 := { stood := { row := fnExactMakePairMoveRow, standIns := [], harness := (true, "e62debe85003246c1c01e889648ad4dc0118a2264d1600c7bce991d3e6d9f9fd"), looks := false }, kinds := [], alts := [], laidByText := true, laidKinds := [.data, .pinned], laidTests := true, laidLooks := .later }
def FnExactMakePairMoveCardSaid : Prop := Claim7.holds Tryd.pinned (.plain (OpenSpec.ofChange fnExactMakePairMoveSpec)) fnExactMakePairMoveCard

/-- THE TIED CARD OF 'laws.FnExactPairMovesOf'. -/
def fnExactPairMovesOfCard : Claim7 := { stood := { row := fnExactPairMovesOfRow, standIns := [], harness := (true, "e62debe85003246c1c01e889648ad4dc0118a2264d1600c7bce991d3e6d9f9fd"), looks := false }, kinds := [], alts := [], laidByText := true, laidKinds := [.data, .pinned], laidTests := true, laidLooks := .later }
def FnExactPairMovesOfCardSaid : Prop := Claim7.holds Tryd.pinned (.plain (OpenSpec.ofChange fnExactPairMovesOfSpec)) fnExactPairMovesOfCard

/-- THE TIED CARD OF 'laws.FnExactPlayPairMoves'. -/
def fnExactPlayPairMovesCard : Claim7 := { stood := { row := fnExactPlayPairMovesRow, standIns := [], harness := (true, "e62debe85003246c1c01e889648ad4dc0118a2264d1600c7bce991d3e6d9f9fd"), looks := false }, kinds := [], alts := [], laidByText := true, laidKinds := [.data, .pinned], laidTests := true, laidLooks := .later }
def FnExactPlayPairMovesCardSaid : Prop := Claim7.holds Tryd.pinned (.plain (OpenSpec.ofChange fnExactPlayPairMovesSpec)) fnExactPlayPairMovesCard

/-- THE TIED CARD OF 'laws.FnExactWayTo'. -/
def fnExactWayToCard : Claim7 := { stood := { row := fnExactWayToRow, standIns := [], harness := (true, "e62debe85003246c1c01e889648ad4dc0118a2264d1600c7bce991d3e6d9f9fd"), looks := false }, kinds := [], alts := [], laidByText := true, laidKinds := [.data, .pinned], laidTests := true, laidLooks := .later }
def FnExactWayToCardSaid : Prop := Claim7.holds Tryd.pinned (.plain (OpenSpec.ofChange fnExactWayToSpec)) fnExactWayToCard

/-- THE TIED CARD OF 'laws.FnExactStatesBetween'. -/
def fnExactStatesBetweenCard : Claim7 := { stood := { row := fnExactStatesBetweenRow, standIns := [], harness := (true, "e62debe85003246c1c01e889648ad4dc0118a2264d1600c7bce991d3e6d9f9fd"), looks := false }, kinds := [], alts := [], laidByText := true, laidKinds := [.data, .pinned], laidTests := true, laidLooks := .later }
def FnExactStatesBetweenCardSaid : Prop := Claim7.holds Tryd.pinned (.plain (OpenSpec.ofChange fnExactStatesBetweenSpec)) fnExactStatesBetweenCard

/-- THE TIED CARD OF 'laws.FnRingsMoveOfAll'. -/
def fnRingsMoveOfAllCard : Claim7 := { stood := { row := fnRingsMoveOfAllRow, standIns := [], harness := (true, "e62debe85003246c1c01e889648ad4dc0118a2264d1600c7bce991d3e6d9f9fd"), looks := false }, kinds := [], alts := [], laidByText := true, laidKinds := [.data, .pinned], laidTests := true, laidLooks := .later }
def FnRingsMoveOfAllCardSaid : Prop := Claim7.holds Tryd.pinned (.plain (OpenSpec.ofChange fnRingsMoveOfAllSpec)) fnRingsMoveOfAllCard

/-- THE SECOND FORM's CARD OF 'laws.FnRingsMove'. -/
def fnRingsMoveUptoCard : Claim7 := { stood := { row := fnRingsMoveUptoRow, standIns := [], harness := (true, "e62debe85003246c1c01e889648ad4dc0118a2264d1600c7bce991d3e6d9f9fd"), looks := false }, kinds := [], alts := [], laidByText := true, laidKinds := [.data, .pinned], laidTests := true, laidLooks := .later }
def FnRingsMoveUptoCardSaid : Prop := Claim7.holds Tryd.pinned (.plain (OpenSpec.upto fnRingsMoveSpec)) fnRingsMoveUptoCard

/-- THE SECOND FORM's CARD OF 'laws.FnWaysLeadOfAll'. -/
def fnWaysLeadOfAllUptoCard : Claim7 := { stood := { row := fnWaysLeadOfAllUptoRow, standIns := [], harness := (true, "e62debe85003246c1c01e889648ad4dc0118a2264d1600c7bce991d3e6d9f9fd"), looks := false }, kinds := [], alts := [], laidByText := true, laidKinds := [.data, .pinned], laidTests := true, laidLooks := .later }
def FnWaysLeadOfAllUptoCardSaid : Prop := Claim7.holds Tryd.pinned (.plain (OpenSpec.upto fnWaysLeadOfAllSpec)) fnWaysLeadOfAllUptoCard

/-- THE SECOND FORM's CARD OF 'laws.FnExactRankOfText'. -/
def fnExactRankOfTextUptoCard : Claim7 := { stood := { row := fnExactRankOfTextUptoRow, standIns := [], harness := (true, "e62debe85003246c1c01e889648ad4dc0118a2264d1600c7bce991d3e6d9f9fd"), looks := false }, kinds := [], alts := [], laidByText := true, laidKinds := [.data, .pinned], laidTests := true, laidLooks := .later }
def FnExactRankOfTextUptoCardSaid : Prop := Claim7.holds Tryd.pinned (.plain (OpenSpec.upto fnExactRankOfTextSpec)) fnExactRankOfTextUptoCard

/-- THE SECOND FORM's CARD OF 'laws.FnExactAreKeys'. -/
def fnExactAreKeysUptoCard : Claim7 := { stood := { row := fnExactAreKeysUptoRow, standIns := [], harness := (true, "e62debe85003246c1c01e889648ad4dc0118a2264d1600c7bce991d3e6d9f9fd"), looks := false }, kinds := [], alts := [], laidByText := true, laidKinds := [.data, .pinned], laidTests := true, laidLooks := .later }
def FnExactAreKeysUptoCardSaid : Prop := Claim7.holds Tryd.pinned (.plain (OpenSpec.upto fnExactAreKeysSpec)) fnExactAreKeysUptoCard

/-- THE SECOND FORM's CARD OF 'laws.FnExactMakePairMove'. -/
def fnExactMakePairMoveUptoCard : Claim7 := { stood := { row := fnExactMakePairMoveUptoRow, standIns := [], harness := (true, "e62debe85003246c1c01e889648ad4dc0118a2264d1600c7bce991d3e6d9f9fd"), looks := false }, kinds := [], alts := [], laidByText := true, laidKinds := [.data, .pinned], laidTests := true, laidLooks := .later }
def FnExactMakePairMoveUptoCardSaid : Prop := Claim7.holds Tryd.pinned (.plain (OpenSpec.upto fnExactMakePairMoveSpec)) fnExactMakePairMoveUptoCard

/-- THE SECOND FORM's CARD OF 'laws.FnExactPairMovesOf'. -/
def fnExactPairMovesOfUptoCard : Claim7 := { stood := { row := fnExactPairMovesOfUptoRow, standIns := [], harness := (true, "e62debe85003246c1c01e889648ad4dc0118a2264d1600c7bce991d3e6d9f9fd"), looks := false }, kinds := [], alts := [], laidByText := true, laidKinds := [.data, .pinned], laidTests := true, laidLooks := .later }
def FnExactPairMovesOfUptoCardSaid : Prop := Claim7.holds Tryd.pinned (.plain (OpenSpec.upto fnExactPairMovesOfSpec)) fnExactPairMovesOfUptoCard

/-- THE SECOND FORM's CARD OF 'laws.FnExactPlayPairMoves'. -/
def fnExactPlayPairMovesUptoCard : Claim7 := { stood := { row := fnExactPlayPairMovesUptoRow, standIns := [], harness := (true, "e62debe85003246c1c01e889648ad4dc0118a2264d1600c7bce991d3e6d9f9fd"), looks := false }, kinds := [], alts := [], laidByText := true, laidKinds := [.data, .pinned], laidTests := true, laidLooks := .later }
def FnExactPlayPairMovesUptoCardSaid : Prop := Claim7.holds Tryd.pinned (.plain (OpenSpec.upto fnExactPlayPairMovesSpec)) fnExactPlayPairMovesUptoCard

/-- THE SECOND FORM's CARD OF 'laws.FnExactWayTo'. -/
def fnExactWayToUptoCard : Claim7 := { stood := { row := fnExactWayToUptoRow, standIns := [], harness := (true, "e62debe85003246c1c01e889648ad4dc0118a2264d1600c7bce991d3e6d9f9fd"), looks := false }, kinds := [], alts := [], laidByText := true, laidKinds := [.data, .pinned], laidTests := true, laidLooks := .later }
def FnExactWayToUptoCardSaid : Prop := Claim7.holds Tryd.pinned (.plain (OpenSpec.upto fnExactWayToSpec)) fnExactWayToUptoCard

/-- THE SECOND FORM's CARD OF 'laws.FnExactStatesBetween'. -/
def fnExactStatesBetweenUptoCard : Claim7 := { stood := { row := fnExactStatesBetweenUptoRow, standIns := [], harness := (true, "e62debe85003246c1c01e889648ad4dc0118a2264d1600c7bce991d3e6d9f9fd"), looks := false }, kinds := [], alts := [], laidByText := true, laidKinds := [.data, .pinned], laidTests := true, laidLooks := .later }
def FnExactStatesBetweenUptoCardSaid : Prop := Claim7.holds Tryd.pinned (.plain (OpenSpec.upto fnExactStatesBetweenSpec)) fnExactStatesBetweenUptoCard

/-- THE SECOND FORM's CARD OF 'laws.FnRingsMoveOfAll'. -/
def fnRingsMoveOfAllUptoCard : Claim7 := { stood := { row := fnRingsMoveOfAllUptoRow, standIns := [], harness := (true, "e62debe85003246c1c01e889648ad4dc0118a2264d1600c7bce991d3e6d9f9fd"), looks := false }, kinds := [], alts := [], laidByText := true, laidKinds := [.data, .pinned], laidTests := true, laidLooks := .later }
def FnRingsMoveOfAllUptoCardSaid : Prop := Claim7.holds Tryd.pinned (.plain (OpenSpec.upto fnRingsMoveOfAllSpec)) fnRingsMoveOfAllUptoCard
end Rows
end Go.Proofs.YtgmmplcijhibgaaDoor
