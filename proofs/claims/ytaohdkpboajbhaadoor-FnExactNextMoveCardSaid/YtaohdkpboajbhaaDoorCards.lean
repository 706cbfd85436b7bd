/-
  DERIVED. GIVEN WITH THE SEED: THE CARDS: each row of YtaohdkpboajbhaaDoorRows.lean that lists a variable, with what it lists TIED to the program's text (the seventh form; the later family's looks); each row that meets fmt, with fmt's text TOLD by the authors' own Lean function (tested against real Go, not proved from fmt's source: count such statements apart). THE CARD IS WHAT COUNTS. Prove the row's statement (the work); the ties are given (YtaohdkpboajbhaaDoorTie.lean); close each card by the builder's one call (the guide's Derived/Test/ToyasCard.lean, 'card_holds'). Laid BY PROGRAM, IN A SANDBOX (cutbox-door.mjs). By AI agents, Wed Nov 11 2026. No macro, syntax, notation, axiom, sorry.
-/
import Derived.Test.YtaohdkpboajbhaaDoorRows
import GoSem.ClaimSeven
namespace Go.Proofs.YtaohdkpboajbhaaDoor
namespace Rows

/-- THE TIED CARD OF 'laws.FnExactIsState'. -/
def fnExactIsStateCard : Claim7 := { stood := { row := fnExactIsStateRow, standIns := [], harness := (true, "bbfa9a10129f866a99375f436a6791ef7c7fff5d1366f8391b33da1929fd2d00"), looks := false }, kinds := [], alts := [], laidByText := true, laidKinds := [.data, .pinned], laidTests := true, laidLooks := .later }
def FnExactIsStateCardSaid : Prop := Claim7.holds Tryd.pinned (.plain (OpenSpec.ofChange fnExactIsStateSpec)) fnExactIsStateCard

/-- THE TIED CARD OF 'laws.FnExactNumberOfState'. -/
def fnExactNumberOfStateCard : Claim7 := { stood := { row := fnExactNumberOfStateRow, standIns := [], harness := (true, "bbfa9a10129f866a99375f436a6791ef7c7fff5d1366f8391b33da1929fd2d00"), looks := false }, kinds := [], alts := [], laidByText := true, laidKinds := [.data, .pinned], laidTests := true, laidLooks := .later }
def FnExactNumberOfStateCardSaid : Prop := Claim7.holds Tryd.pinned (.plain (OpenSpec.ofChange fnExactNumberOfStateSpec)) fnExactNumberOfStateCard

/-- THE TIED CARD OF 'laws.FnExactMoveRing'. -/
def fnExactMoveRingCard : Claim7 := { stood := { row := fnExactMoveRingRow, standIns := [], harness := (true, "bbfa9a10129f866a99375f436a6791ef7c7fff5d1366f8391b33da1929fd2d00"), looks := false }, kinds := [], alts := [], laidByText := true, laidKinds := [.data, .pinned], laidTests := true, laidLooks := .later }
def FnExactMoveRingCardSaid : Prop := Claim7.holds Tryd.pinned (.plain (OpenSpec.ofChange fnExactMoveRingSpec)) fnExactMoveRingCard

/-- THE TIED CARD OF 'laws.FnExactFewestMoves'. -/
def fnExactFewestMovesCard : Claim7 := { stood := { row := fnExactFewestMovesRow, standIns := [], harness := (true, "bbfa9a10129f866a99375f436a6791ef7c7fff5d1366f8391b33da1929fd2d00"), looks := false }, kinds := [], alts := [], laidByText := true, laidKinds := [.data, .pinned], laidTests := true, laidLooks := .later }
def FnExactFewestMovesCardSaid : Prop := Claim7.holds Tryd.pinned (.plain (OpenSpec.ofChange fnExactFewestMovesSpec)) fnExactFewestMovesCard

/-- THE TIED CARD OF 'laws.FnExactMiddleOf'. -/
def fnExactMiddleOfCard : Claim7 := { stood := { row := fnExactMiddleOfRow, standIns := [], harness := (true, "bbfa9a10129f866a99375f436a6791ef7c7fff5d1366f8391b33da1929fd2d00"), looks := false }, kinds := [], alts := [], laidByText := true, laidKinds := [.data, .pinned], laidTests := true, laidLooks := .later }
def FnExactMiddleOfCardSaid : Prop := Claim7.holds Tryd.pinned (.plain (OpenSpec.ofChange fnExactMiddleOfSpec)) fnExactMiddleOfCard

/-- THE TIED CARD OF 'laws.FnExactMovesOf'. -/
def fnExactMovesOfCard : Claim7 := { stood := { row := fnExactMovesOfRow, standIns := [], harness := (true, "bbfa9a10129f866a99375f436a6791ef7c7fff5d1366f8391b33da1929fd2d00"), looks := false }, kinds := [], alts := [], laidByText := true, laidKinds := [.data, .pinned], laidTests := true, laidLooks := .later }
def FnExactMovesOfCardSaid : Prop := Claim7.holds Tryd.pinned (.plain (OpenSpec.ofChange fnExactMovesOfSpec)) fnExactMovesOfCard

/-- THE TIED CARD OF 'laws.FnExactNextMove'. -/
def fnExactNextMoveCard : Claim7 := { stood := { row := fnExactNextMoveRow, standIns := [], harness := (true, "bbfa9a10129f866a99375f436a6791ef7c7fff5d1366f8391b33da1929fd2d00"), looks := false }, kinds := [], alts := [], laidByText := true, laidKinds := [.data, .pinned], laidTests := true, laidLooks := .later }
def FnExactNextMoveCardSaid : Prop := Claim7.holds Tryd.pinned (.plain (OpenSpec.ofChange fnExactNextMoveSpec)) fnExactNextMoveCard

/-- THE TIED CARD OF 'laws.FnExactMoveThatFails'. -/
def fnExactMoveThatFailsCard : Claim7 := { stood := { row := fnExactMoveThatFailsRow, standIns := [], harness := (true, "bbfa9a10129f866a99375f436a6791ef7c7fff5d1366f8391b33da1929fd2d00"), looks := false }, kinds := [], alts := [], laidByText := true, laidKinds := [.data, .pinned], laidTests := true, laidLooks := .later }
def FnExactMoveThatFailsCardSaid : Prop := Claim7.holds Tryd.pinned (.plain (OpenSpec.ofChange fnExactMoveThatFailsSpec)) fnExactMoveThatFailsCard

/-- THE TIED CARD OF 'laws.FnExactPlayMoves'. -/
def fnExactPlayMovesCard : Claim7 := { stood := { row := fnExactPlayMovesRow, standIns := [], harness := (true, "bbfa9a10129f866a99375f436a6791ef7c7fff5d1366f8391b33da1929fd2d00"), looks := false }, kinds := [], alts := [], laidByText := true, laidKinds := [.data, .pinned], laidTests := true, laidLooks := .later }
def FnExactPlayMovesCardSaid : Prop := Claim7.holds Tryd.pinned (.plain (OpenSpec.ofChange fnExactPlayMovesSpec)) fnExactPlayMovesCard

/-- THE TIED CARD OF 'laws.FnExactTimesMoved'. -/
def fnExactTimesMovedCard : Claim7 := { stood := { row := fnExactTimesMovedRow, standIns := [], harness := (true, "bbfa9a10129f866a99375f436a6791ef7c7fff5d1366f8391b33da1929fd2d00"), looks := false }, kinds := [], alts := [], laidByText := true, laidKinds := [.data, .pinned], laidTests := true, laidLooks := .later }
def FnExactTimesMovedCardSaid : Prop := Claim7.holds Tryd.pinned (.plain (OpenSpec.ofChange fnExactTimesMovedSpec)) fnExactTimesMovedCard

/-- THE TIED CARD OF 'laws.FnExactFarthestFrom'. -/
def fnExactFarthestFromCard : Claim7 := { stood := { row := fnExactFarthestFromRow, standIns := [], harness := (true, "bbfa9a10129f866a99375f436a6791ef7c7fff5d1366f8391b33da1929fd2d00"), looks := false }, kinds := [], alts := [], laidByText := true, laidKinds := [.data, .pinned], laidTests := true, laidLooks := .later }
def FnExactFarthestFromCardSaid : Prop := Claim7.holds Tryd.pinned (.plain (OpenSpec.ofChange fnExactFarthestFromSpec)) fnExactFarthestFromCard

/-- THE TIED CARD OF 'laws.FnExactCountOn'. -/
def fnExactCountOnCard : Claim7 := { stood := { row := fnExactCountOnRow, standIns := [], harness := (true, "bbfa9a10129f866a99375f436a6791ef7c7fff5d1366f8391b33da1929fd2d00"), looks := false }, kinds := [], alts := [], laidByText := true, laidKinds := [.data, .pinned], laidTests := true, laidLooks := .later }
def FnExactCountOnCardSaid : Prop := Claim7.holds Tryd.pinned (.plain (OpenSpec.ofChange fnExactCountOnSpec)) fnExactCountOnCard

/-- THE SECOND FORM's CARD OF 'laws.FnExactIsState'. -/
def fnExactIsStateUptoCard : Claim7 := { stood := { row := fnExactIsStateUptoRow, standIns := [], harness := (true, "bbfa9a10129f866a99375f436a6791ef7c7fff5d1366f8391b33da1929fd2d00"), looks := false }, kinds := [], alts := [], laidByText := true, laidKinds := [.data, .pinned], laidTests := true, laidLooks := .later }
def FnExactIsStateUptoCardSaid : Prop := Claim7.holds Tryd.pinned (.plain (OpenSpec.upto fnExactIsStateSpec)) fnExactIsStateUptoCard

/-- THE SECOND FORM's CARD OF 'laws.FnExactNumberOfState'. -/
def fnExactNumberOfStateUptoCard : Claim7 := { stood := { row := fnExactNumberOfStateUptoRow, standIns := [], harness := (true, "bbfa9a10129f866a99375f436a6791ef7c7fff5d1366f8391b33da1929fd2d00"), looks := false }, kinds := [], alts := [], laidByText := true, laidKinds := [.data, .pinned], laidTests := true, laidLooks := .later }
def FnExactNumberOfStateUptoCardSaid : Prop := Claim7.holds Tryd.pinned (.plain (OpenSpec.upto fnExactNumberOfStateSpec)) fnExactNumberOfStateUptoCard

/-- THE SECOND FORM's CARD OF 'laws.FnExactMoveRing'. -/
def fnExactMoveRingUptoCard : Claim7 := { stood := { row := fnExactMoveRingUptoRow, standIns := [], harness := (true, "bbfa9a10129f866a99375f436a6791ef7c7fff5d1366f8391b33da1929fd2d00"), looks := false }, kinds := [], alts := [], laidByText := true, laidKinds := [.data, .pinned], laidTests := true, laidLooks := .later }
def FnExactMoveRingUptoCardSaid : Prop := Claim7.holds Tryd.pinned (.plain (OpenSpec.upto fnExactMoveRingSpec)) fnExactMoveRingUptoCard

/-- THE SECOND FORM's CARD OF 'laws.FnExactFewestMoves'. -/
def fnExactFewestMovesUptoCard : Claim7 := { stood := { row := fnExactFewestMovesUptoRow, standIns := [], harness := (true, "bbfa9a10129f866a99375f436a6791ef7c7fff5d1366f8391b33da1929fd2d00"), looks := false }, kinds := [], alts := [], laidByText := true, laidKinds := [.data, .pinned], laidTests := true, laidLooks := .later }
def FnExactFewestMovesUptoCardSaid : Prop := Claim7.holds Tryd.pinned (.plain (OpenSpec.upto fnExactFewestMovesSpec)) fnExactFewestMovesUptoCard

/-- THE SECOND FORM's CARD OF 'laws.FnExactMiddleOf'. -/
def fnExactMiddleOfUptoCard : Claim7 := { stood := { row := fnExactMiddleOfUptoRow, standIns := [], harness := (true, "bbfa9a10129f866a99375f436a6791ef7c7fff5d1366f8391b33da1929fd2d00"), looks := false }, kinds := [], alts := [], laidByText := true, laidKinds := [.data, .pinned], laidTests := true, laidLooks := .later }
def FnExactMiddleOfUptoCardSaid : Prop := Claim7.holds Tryd.pinned (.plain (OpenSpec.upto fnExactMiddleOfSpec)) fnExactMiddleOfUptoCard

/-- THE SECOND FORM's CARD OF 'laws.FnExactMovesOf'. -/
def fnExactMovesOfUptoCard : Claim7 := { stood := { row := fnExactMovesOfUptoRow, standIns := [], harness := (true, "bbfa9a10129f866a99375f436a6791ef7c7fff5d1366f8391b33da1929fd2d00"), looks := false }, kinds := [], alts := [], laidByText := true, laidKinds := [.data, .pinned], laidTests := true, laidLooks := .later }
def FnExactMovesOfUptoCardSaid : Prop := Claim7.holds Tryd.pinned (.plain (OpenSpec.upto fnExactMovesOfSpec)) fnExactMovesOfUptoCard

/-- THE SECOND FORM's CARD OF 'laws.FnExactNextMove'. -/
def fnExactNextMoveUptoCard : Claim7 := { stood := { row := fnExactNextMoveUptoRow, standIns := [], harness := (true, "bbfa9a10129f866a99375f436a6791ef7c7fff5d1366f8391b33da1929fd2d00"), looks := false }, kinds := [], alts := [], laidByText := true, laidKinds := [.data, .pinned], laidTests := true, laidLooks := .later }
def FnExactNextMoveUptoCardSaid : Prop := Claim7.holds Tryd.pinned (.plain (OpenSpec.upto fnExactNextMoveSpec)) fnExactNextMoveUptoCard

/-- THE SECOND FORM's CARD OF 'laws.FnExactMoveThatFails'. -/
def fnExactMoveThatFailsUptoCard : Claim7 := { stood := { row := fnExactMoveThatFailsUptoRow, standIns := [], harness := (true, "bbfa9a10129f866a99375f436a6791ef7c7fff5d1366f8391b33da1929fd2d00"), looks := false }, kinds := [], alts := [], laidByText := true, laidKinds := [.data, .pinned], laidTests := true, laidLooks := .later }
def FnExactMoveThatFailsUptoCardSaid : Prop := Claim7.holds Tryd.pinned (.plain (OpenSpec.upto fnExactMoveThatFailsSpec)) fnExactMoveThatFailsUptoCard

/-- THE SECOND FORM's CARD OF 'laws.FnExactPlayMoves'. -/
def fnExactPlayMovesUptoCard : Claim7 := { stood := { row := fnExactPlayMovesUptoRow, standIns := [], harness := (true, "bbfa9a10129f866a99375f436a6791ef7c7fff5d1366f8391b33da1929fd2d00"), looks := false }, kinds := [], alts := [], laidByText := true, laidKinds := [.data, .pinned], laidTests := true, laidLooks := .later }
def FnExactPlayMovesUptoCardSaid : Prop := Claim7.holds Tryd.pinned (.plain (OpenSpec.upto fnExactPlayMovesSpec)) fnExactPlayMovesUptoCard

/-- THE SECOND FORM's CARD OF 'laws.FnExactTimesMoved'. -/
def fnExactTimesMovedUptoCard : Claim7 := { stood := { row := fnExactTimesMovedUptoRow, standIns := [], harness := (true, "bbfa9a10129f866a99375f436a6791ef7c7fff5d1366f8391b33da1929fd2d00"), looks := false }, kinds := [], alts := [], laidByText := true, laidKinds := [.data, .pinned], laidTests := true, laidLooks := .later }
def FnExactTimesMovedUptoCardSaid : Prop := Claim7.holds Tryd.pinned (.plain (OpenSpec.upto fnExactTimesMovedSpec)) fnExactTimesMovedUptoCard

/-- THE SECOND FORM's CARD OF 'laws.FnExactFarthestFrom'. -/
def fnExactFarthestFromUptoCard : Claim7 := { stood := { row := fnExactFarthestFromUptoRow, standIns := [], harness := (true, "bbfa9a10129f866a99375f436a6791ef7c7fff5d1366f8391b33da1929fd2d00"), looks := false }, kinds := [], alts := [], laidByText := true, laidKinds := [.data, .pinned], laidTests := true, laidLooks := .later }
def FnExactFarthestFromUptoCardSaid : Prop := Claim7.holds Tryd.pinned (.plain (OpenSpec.upto fnExactFarthestFromSpec)) fnExactFarthestFromUptoCard

/-- THE SECOND FORM's CARD OF 'laws.FnExactCountOn'. -/
def fnExactCountOnUptoCard : Claim7 := { stood := { row := fnExactCountOnUptoRow, standIns := [], harness := (true, "bbfa9a10129f866a99375f436a6791ef7c7fff5d1366f8391b33da1929fd2d00"), looks := false }, kinds := [], alts := [], laidByText := true, laidKinds := [.data, .pinned], laidTests := true, laidLooks := .later }
def FnExactCountOnUptoCardSaid : Prop := Claim7.holds Tryd.pinned (.plain (OpenSpec.upto fnExactCountOnSpec)) fnExactCountOnUptoCard
end Rows
end Go.Proofs.YtaohdkpboajbhaaDoor
