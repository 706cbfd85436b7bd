/-
  NARROWER THAN 'FOR EVERY INPUT', by the rows' own cells (each row's printed sentence says how): FnExactIsState: laid · FnExactNumberOfState: laid · FnExactMoveRing: laid · FnExactFewestMoves: laid · FnExactMiddleOf: laid · FnExactMovesOf: laid · FnExactNextMove: laid · FnExactMoveThatFails: laid · FnExactPlayMoves: laid · FnExactTimesMoved: laid · FnExactFarthestFrom: laid · FnExactCountOn: laid.
  DERIVED. THE GIVEN ROWS OF THIS SEAT. 12 by the template 'for every input the law returns true; each argument reads behind the call as it read before'; 0 by the template 'total and deterministic' (their statements: YtaohdkpboajbhaaDoorTotals.lean).
  GIVEN WITH THE SEED: the statements are not yours to turn. If you find one false, say at which input.
  Laid BY PROGRAM, IN A SANDBOX (cutbox-rows.mjs): the forced cells as the released guide's own fill.sh prints them over the translation b402805fabf0fad0… (all of the seat's roots in one cut). By AI agents, Wed Nov 11 2026. No macro, syntax, notation, axiom, sorry.
-/
import Derived.Test.YtaohdkpboajbhaaDoorChecked
import GoSem.PinnedTables
import GoSem.Claim
import GoSem.ClaimJoined
import GoSem.ClaimMapViews
import Derived.JoinedTies
import Derived.KernelRfl
namespace Go.Proofs.YtaohdkpboajbhaaDoor
/- THE CELL 'sum', in the pinned program and in every row, IS THE sha256 OF THE DUMP (.gsa) THAT YtaohdkpboajbhaaDoorProg.lean LOADS. Nothing in Lean hashes anything: it is a label: what it is worth is what the hold of that sum in a sandbox is worth. -/
noncomputable def Tryd.pinned : Pinned := { name := "ytaohdkpboajbhaadoor", sum := "b402805fabf0fad0227457af10605319c32d93e9b229b83fa84c0ab5c9815349", checked := Tryd.checked }
namespace Rows
def none {H : Type} : Left H := { results := [], args := [] }

/- WHAT THE LISTED PACKAGE-LEVEL VARIABLES READ AS WHEN THE CALL BEGINS. Each datum BY PROGRAM (the guide's laid-datum.mjs) off the statement by which the dump's own 'gosem.cut.vars' lays the variable. In a bare row this is a premise. The card (YtaohdkpboajbhaaDoorCards.lean) ties it to the program's text. -/
def laid_unicode_utf8_acceptRanges {H : Type} : DataW H := .agg [.agg [.lit (.int .u8 128), .lit (.int .u8 191)], .agg [.lit (.int .u8 160), .lit (.int .u8 191)], .agg [.lit (.int .u8 128), .lit (.int .u8 159)], .agg [.lit (.int .u8 144), .lit (.int .u8 191)], .agg [.lit (.int .u8 128), .lit (.int .u8 143)], .agg [.lit (.int .u8 0), .lit (.int .u8 0)], .agg [.lit (.int .u8 0), .lit (.int .u8 0)], .agg [.lit (.int .u8 0), .lit (.int .u8 0)], .agg [.lit (.int .u8 0), .lit (.int .u8 0)], .agg [.lit (.int .u8 0), .lit (.int .u8 0)], .agg [.lit (.int .u8 0), .lit (.int .u8 0)], .agg [.lit (.int .u8 0), .lit (.int .u8 0)], .agg [.lit (.int .u8 0), .lit (.int .u8 0)], .agg [.lit (.int .u8 0), .lit (.int .u8 0)], .agg [.lit (.int .u8 0), .lit (.int .u8 0)], .agg [.lit (.int .u8 0), .lit (.int .u8 0)]]
/-- One of Go's own tables, pinned by name: the form's constant. -/
def laid_unicode_utf8_first : DataW Unit := Go.Pinned.utf8First

/-- 'laws.FnExactIsState': WHATEVER THE INPUT: true; the input reads as it did. -/
def fnExactIsStateSpec : ChangeSpec := { name := "fnExactIsState", fn := fun _ => fun
  | [d] => { results := [.lit (.bool true)], args := [d] }
  | _ => none }
def fnExactIsStateRow : OpenClaim := { program := "ytaohdkpboajbhaadoor", sum := "b402805fabf0fad0227457af10605319c32d93e9b229b83fa84c0ab5c9815349", func := "loop.example/g01314/laws.FnExactIsState", spec := "fnExactIsState", inPlace := ["internal/bytealg.IndexByteString", "internal/bytealg.IndexString"], named := ["unicode/utf8.first", "unicode/utf8.acceptRanges", "internal/bytealg.MaxLen"], apart := false, laid := [("unicode/utf8.acceptRanges", laid_unicode_utf8_acceptRanges), ("unicode/utf8.first", laid_unicode_utf8_first)] }
def FnExactIsStateSaid : Prop := fnExactIsStateRow.holds Tryd.pinned (OpenSpec.ofChange fnExactIsStateSpec)

/-- ITS FALSE NEIGHBOUR: 'it returns false'. Refute it at one input. -/
def fnExactIsStateWrong : ChangeSpec := { name := "fnExactIsState", fn := fun _ => fun
  | [d] => { results := [.lit (.bool false)], args := [d] }
  | _ => none }
def FnExactIsStateWrongFalsely : Prop := fnExactIsStateRow.holds Tryd.pinned (OpenSpec.ofChange fnExactIsStateWrong)

/-- 'laws.FnExactNumberOfState': WHATEVER THE INPUT: true; the input reads as it did. -/
def fnExactNumberOfStateSpec : ChangeSpec := { name := "fnExactNumberOfState", fn := fun _ => fun
  | [d] => { results := [.lit (.bool true)], args := [d] }
  | _ => none }
def fnExactNumberOfStateRow : OpenClaim := { program := "ytaohdkpboajbhaadoor", sum := "b402805fabf0fad0227457af10605319c32d93e9b229b83fa84c0ab5c9815349", func := "loop.example/g01314/laws.FnExactNumberOfState", spec := "fnExactNumberOfState", inPlace := ["internal/bytealg.IndexByteString", "internal/bytealg.IndexString"], named := ["unicode/utf8.first", "unicode/utf8.acceptRanges", "internal/bytealg.MaxLen"], apart := false, laid := [("unicode/utf8.acceptRanges", laid_unicode_utf8_acceptRanges), ("unicode/utf8.first", laid_unicode_utf8_first)] }
def FnExactNumberOfStateSaid : Prop := fnExactNumberOfStateRow.holds Tryd.pinned (OpenSpec.ofChange fnExactNumberOfStateSpec)

/-- ITS FALSE NEIGHBOUR: 'it returns false'. Refute it at one input. -/
def fnExactNumberOfStateWrong : ChangeSpec := { name := "fnExactNumberOfState", fn := fun _ => fun
  | [d] => { results := [.lit (.bool false)], args := [d] }
  | _ => none }
def FnExactNumberOfStateWrongFalsely : Prop := fnExactNumberOfStateRow.holds Tryd.pinned (OpenSpec.ofChange fnExactNumberOfStateWrong)

/-- 'laws.FnExactMoveRing': WHATEVER THE INPUT: true; the input reads as it did. -/
def fnExactMoveRingSpec : ChangeSpec := { name := "fnExactMoveRing", fn := fun _ => fun
  | [d1, d2] => { results := [.lit (.bool true)], args := [d1, d2] }
  | _ => none }
def fnExactMoveRingRow : OpenClaim := { program := "ytaohdkpboajbhaadoor", sum := "b402805fabf0fad0227457af10605319c32d93e9b229b83fa84c0ab5c9815349", func := "loop.example/g01314/laws.FnExactMoveRing", spec := "fnExactMoveRing", inPlace := ["internal/bytealg.IndexByteString", "internal/bytealg.IndexString"], named := ["unicode/utf8.first", "unicode/utf8.acceptRanges", "internal/bytealg.MaxLen"], apart := false, laid := [("unicode/utf8.acceptRanges", laid_unicode_utf8_acceptRanges), ("unicode/utf8.first", laid_unicode_utf8_first)] }
def FnExactMoveRingSaid : Prop := fnExactMoveRingRow.holds Tryd.pinned (OpenSpec.ofChange fnExactMoveRingSpec)

/-- ITS FALSE NEIGHBOUR: 'it returns false'. Refute it at one input. -/
def fnExactMoveRingWrong : ChangeSpec := { name := "fnExactMoveRing", fn := fun _ => fun
  | [d1, d2] => { results := [.lit (.bool false)], args := [d1, d2] }
  | _ => none }
def FnExactMoveRingWrongFalsely : Prop := fnExactMoveRingRow.holds Tryd.pinned (OpenSpec.ofChange fnExactMoveRingWrong)

/-- 'laws.FnExactFewestMoves': WHATEVER THE INPUT: true; the input reads as it did. -/
def fnExactFewestMovesSpec : ChangeSpec := { name := "fnExactFewestMoves", fn := fun _ => fun
  | [d1, d2] => { results := [.lit (.bool true)], args := [d1, d2] }
  | _ => none }
def fnExactFewestMovesRow : OpenClaim := { program := "ytaohdkpboajbhaadoor", sum := "b402805fabf0fad0227457af10605319c32d93e9b229b83fa84c0ab5c9815349", func := "loop.example/g01314/laws.FnExactFewestMoves", spec := "fnExactFewestMoves", inPlace := ["internal/bytealg.IndexByteString", "internal/bytealg.IndexString"], named := ["unicode/utf8.first", "unicode/utf8.acceptRanges", "internal/bytealg.MaxLen"], apart := false, laid := [("unicode/utf8.acceptRanges", laid_unicode_utf8_acceptRanges), ("unicode/utf8.first", laid_unicode_utf8_first)] }
def FnExactFewestMovesSaid : Prop := fnExactFewestMovesRow.holds Tryd.pinned (OpenSpec.ofChange fnExactFewestMovesSpec)

/-- ITS FALSE NEIGHBOUR: 'it returns false'. Refute it at one input. -/
def fnExactFewestMovesWrong : ChangeSpec := { name := "fnExactFewestMoves", fn := fun _ => fun
  | [d1, d2] => { results := [.lit (.bool false)], args := [d1, d2] }
  | _ => none }
def FnExactFewestMovesWrongFalsely : Prop := fnExactFewestMovesRow.holds Tryd.pinned (OpenSpec.ofChange fnExactFewestMovesWrong)

/-- 'laws.FnExactMiddleOf': WHATEVER THE INPUT: true; the input reads as it did. -/
def fnExactMiddleOfSpec : ChangeSpec := { name := "fnExactMiddleOf", fn := fun _ => fun
  | [d1, d2] => { results := [.lit (.bool true)], args := [d1, d2] }
  | _ => none }
def fnExactMiddleOfRow : OpenClaim := { program := "ytaohdkpboajbhaadoor", sum := "b402805fabf0fad0227457af10605319c32d93e9b229b83fa84c0ab5c9815349", func := "loop.example/g01314/laws.FnExactMiddleOf", spec := "fnExactMiddleOf", inPlace := ["internal/bytealg.IndexByteString", "internal/bytealg.IndexString"], named := ["unicode/utf8.first", "unicode/utf8.acceptRanges", "internal/bytealg.MaxLen"], apart := false, laid := [("unicode/utf8.acceptRanges", laid_unicode_utf8_acceptRanges), ("unicode/utf8.first", laid_unicode_utf8_first)] }
def FnExactMiddleOfSaid : Prop := fnExactMiddleOfRow.holds Tryd.pinned (OpenSpec.ofChange fnExactMiddleOfSpec)

/-- ITS FALSE NEIGHBOUR: 'it returns false'. Refute it at one input. -/
def fnExactMiddleOfWrong : ChangeSpec := { name := "fnExactMiddleOf", fn := fun _ => fun
  | [d1, d2] => { results := [.lit (.bool false)], args := [d1, d2] }
  | _ => none }
def FnExactMiddleOfWrongFalsely : Prop := fnExactMiddleOfRow.holds Tryd.pinned (OpenSpec.ofChange fnExactMiddleOfWrong)

/-- 'laws.FnExactMovesOf': WHATEVER THE INPUT: true; the input reads as it did. -/
def fnExactMovesOfSpec : ChangeSpec := { name := "fnExactMovesOf", fn := fun _ => fun
  | [d] => { results := [.lit (.bool true)], args := [d] }
  | _ => none }
def fnExactMovesOfRow : OpenClaim := { program := "ytaohdkpboajbhaadoor", sum := "b402805fabf0fad0227457af10605319c32d93e9b229b83fa84c0ab5c9815349", func := "loop.example/g01314/laws.FnExactMovesOf", spec := "fnExactMovesOf", inPlace := ["internal/bytealg.IndexByteString", "internal/bytealg.IndexString"], named := ["unicode/utf8.first", "unicode/utf8.acceptRanges", "internal/bytealg.MaxLen"], apart := false, laid := [("unicode/utf8.acceptRanges", laid_unicode_utf8_acceptRanges), ("unicode/utf8.first", laid_unicode_utf8_first)] }
def FnExactMovesOfSaid : Prop := fnExactMovesOfRow.holds Tryd.pinned (OpenSpec.ofChange fnExactMovesOfSpec)

/-- ITS FALSE NEIGHBOUR: 'it returns false'. Refute it at one input. -/
def fnExactMovesOfWrong : ChangeSpec := { name := "fnExactMovesOf", fn := fun _ => fun
  | [d] => { results := [.lit (.bool false)], args := [d] }
  | _ => none }
def FnExactMovesOfWrongFalsely : Prop := fnExactMovesOfRow.holds Tryd.pinned (OpenSpec.ofChange fnExactMovesOfWrong)

/-- 'laws.FnExactNextMove': WHATEVER THE INPUT: true; the input reads as it did. -/
def fnExactNextMoveSpec : ChangeSpec := { name := "fnExactNextMove", fn := fun _ => fun
  | [d1, d2] => { results := [.lit (.bool true)], args := [d1, d2] }
  | _ => none }
def fnExactNextMoveRow : OpenClaim := { program := "ytaohdkpboajbhaadoor", sum := "b402805fabf0fad0227457af10605319c32d93e9b229b83fa84c0ab5c9815349", func := "loop.example/g01314/laws.FnExactNextMove", spec := "fnExactNextMove", inPlace := ["internal/bytealg.IndexByteString", "internal/bytealg.IndexString"], named := ["unicode/utf8.first", "unicode/utf8.acceptRanges", "internal/bytealg.MaxLen"], apart := false, laid := [("unicode/utf8.acceptRanges", laid_unicode_utf8_acceptRanges), ("unicode/utf8.first", laid_unicode_utf8_first)] }
def FnExactNextMoveSaid : Prop := fnExactNextMoveRow.holds Tryd.pinned (OpenSpec.ofChange fnExactNextMoveSpec)

/-- ITS FALSE NEIGHBOUR: 'it returns false'. Refute it at one input. -/
def fnExactNextMoveWrong : ChangeSpec := { name := "fnExactNextMove", fn := fun _ => fun
  | [d1, d2] => { results := [.lit (.bool false)], args := [d1, d2] }
  | _ => none }
def FnExactNextMoveWrongFalsely : Prop := fnExactNextMoveRow.holds Tryd.pinned (OpenSpec.ofChange fnExactNextMoveWrong)

/-- 'laws.FnExactMoveThatFails': WHATEVER THE INPUT: true; the input reads as it did. -/
def fnExactMoveThatFailsSpec : ChangeSpec := { name := "fnExactMoveThatFails", fn := fun _ => fun
  | [d1, d2] => { results := [.lit (.bool true)], args := [d1, d2] }
  | _ => none }
def fnExactMoveThatFailsRow : OpenClaim := { program := "ytaohdkpboajbhaadoor", sum := "b402805fabf0fad0227457af10605319c32d93e9b229b83fa84c0ab5c9815349", func := "loop.example/g01314/laws.FnExactMoveThatFails", spec := "fnExactMoveThatFails", inPlace := ["internal/bytealg.IndexByteString", "internal/bytealg.IndexString"], named := ["unicode/utf8.first", "unicode/utf8.acceptRanges", "internal/bytealg.MaxLen"], apart := false, laid := [("unicode/utf8.acceptRanges", laid_unicode_utf8_acceptRanges), ("unicode/utf8.first", laid_unicode_utf8_first)] }
def FnExactMoveThatFailsSaid : Prop := fnExactMoveThatFailsRow.holds Tryd.pinned (OpenSpec.ofChange fnExactMoveThatFailsSpec)

/-- ITS FALSE NEIGHBOUR: 'it returns false'. Refute it at one input. -/
def fnExactMoveThatFailsWrong : ChangeSpec := { name := "fnExactMoveThatFails", fn := fun _ => fun
  | [d1, d2] => { results := [.lit (.bool false)], args := [d1, d2] }
  | _ => none }
def FnExactMoveThatFailsWrongFalsely : Prop := fnExactMoveThatFailsRow.holds Tryd.pinned (OpenSpec.ofChange fnExactMoveThatFailsWrong)

/-- 'laws.FnExactPlayMoves': WHATEVER THE INPUT: true; the input reads as it did. -/
def fnExactPlayMovesSpec : ChangeSpec := { name := "fnExactPlayMoves", fn := fun _ => fun
  | [d1, d2] => { results := [.lit (.bool true)], args := [d1, d2] }
  | _ => none }
def fnExactPlayMovesRow : OpenClaim := { program := "ytaohdkpboajbhaadoor", sum := "b402805fabf0fad0227457af10605319c32d93e9b229b83fa84c0ab5c9815349", func := "loop.example/g01314/laws.FnExactPlayMoves", spec := "fnExactPlayMoves", inPlace := ["internal/bytealg.IndexByteString", "internal/bytealg.IndexString"], named := ["unicode/utf8.first", "unicode/utf8.acceptRanges", "internal/bytealg.MaxLen"], apart := false, laid := [("unicode/utf8.acceptRanges", laid_unicode_utf8_acceptRanges), ("unicode/utf8.first", laid_unicode_utf8_first)] }
def FnExactPlayMovesSaid : Prop := fnExactPlayMovesRow.holds Tryd.pinned (OpenSpec.ofChange fnExactPlayMovesSpec)

/-- ITS FALSE NEIGHBOUR: 'it returns false'. Refute it at one input. -/
def fnExactPlayMovesWrong : ChangeSpec := { name := "fnExactPlayMoves", fn := fun _ => fun
  | [d1, d2] => { results := [.lit (.bool false)], args := [d1, d2] }
  | _ => none }
def FnExactPlayMovesWrongFalsely : Prop := fnExactPlayMovesRow.holds Tryd.pinned (OpenSpec.ofChange fnExactPlayMovesWrong)

/-- 'laws.FnExactTimesMoved': WHATEVER THE INPUT: true; the input reads as it did. -/
def fnExactTimesMovedSpec : ChangeSpec := { name := "fnExactTimesMoved", fn := fun _ => fun
  | [d1, d2] => { results := [.lit (.bool true)], args := [d1, d2] }
  | _ => none }
def fnExactTimesMovedRow : OpenClaim := { program := "ytaohdkpboajbhaadoor", sum := "b402805fabf0fad0227457af10605319c32d93e9b229b83fa84c0ab5c9815349", func := "loop.example/g01314/laws.FnExactTimesMoved", spec := "fnExactTimesMoved", inPlace := ["internal/bytealg.IndexByteString", "internal/bytealg.IndexString"], named := ["unicode/utf8.first", "unicode/utf8.acceptRanges", "internal/bytealg.MaxLen"], apart := false, laid := [("unicode/utf8.acceptRanges", laid_unicode_utf8_acceptRanges), ("unicode/utf8.first", laid_unicode_utf8_first)] }
def FnExactTimesMovedSaid : Prop := fnExactTimesMovedRow.holds Tryd.pinned (OpenSpec.ofChange fnExactTimesMovedSpec)

/-- ITS FALSE NEIGHBOUR: 'it returns false'. Refute it at one input. -/
def fnExactTimesMovedWrong : ChangeSpec := { name := "fnExactTimesMoved", fn := fun _ => fun
  | [d1, d2] => { results := [.lit (.bool false)], args := [d1, d2] }
  | _ => none }
def FnExactTimesMovedWrongFalsely : Prop := fnExactTimesMovedRow.holds Tryd.pinned (OpenSpec.ofChange fnExactTimesMovedWrong)

/-- 'laws.FnExactFarthestFrom': WHATEVER THE INPUT: true; the input reads as it did. -/
def fnExactFarthestFromSpec : ChangeSpec := { name := "fnExactFarthestFrom", fn := fun _ => fun
  | [d] => { results := [.lit (.bool true)], args := [d] }
  | _ => none }
def fnExactFarthestFromRow : OpenClaim := { program := "ytaohdkpboajbhaadoor", sum := "b402805fabf0fad0227457af10605319c32d93e9b229b83fa84c0ab5c9815349", func := "loop.example/g01314/laws.FnExactFarthestFrom", spec := "fnExactFarthestFrom", inPlace := ["internal/bytealg.IndexByteString", "internal/bytealg.IndexString"], named := ["unicode/utf8.first", "unicode/utf8.acceptRanges", "internal/bytealg.MaxLen"], apart := false, laid := [("unicode/utf8.acceptRanges", laid_unicode_utf8_acceptRanges), ("unicode/utf8.first", laid_unicode_utf8_first)] }
def FnExactFarthestFromSaid : Prop := fnExactFarthestFromRow.holds Tryd.pinned (OpenSpec.ofChange fnExactFarthestFromSpec)

/-- ITS FALSE NEIGHBOUR: 'it returns false'. Refute it at one input. -/
def fnExactFarthestFromWrong : ChangeSpec := { name := "fnExactFarthestFrom", fn := fun _ => fun
  | [d] => { results := [.lit (.bool false)], args := [d] }
  | _ => none }
def FnExactFarthestFromWrongFalsely : Prop := fnExactFarthestFromRow.holds Tryd.pinned (OpenSpec.ofChange fnExactFarthestFromWrong)

/-- 'laws.FnExactCountOn': WHATEVER THE INPUT: true; the input reads as it did. -/
def fnExactCountOnSpec : ChangeSpec := { name := "fnExactCountOn", fn := fun _ => fun
  | [d] => { results := [.lit (.bool true)], args := [d] }
  | _ => none }
def fnExactCountOnRow : OpenClaim := { program := "ytaohdkpboajbhaadoor", sum := "b402805fabf0fad0227457af10605319c32d93e9b229b83fa84c0ab5c9815349", func := "loop.example/g01314/laws.FnExactCountOn", spec := "fnExactCountOn", inPlace := ["internal/bytealg.IndexByteString", "internal/bytealg.IndexString", "internal/bytealg.CountString"], named := ["unicode/utf8.first", "unicode/utf8.acceptRanges", "internal/bytealg.MaxLen"], apart := false, laid := [("unicode/utf8.acceptRanges", laid_unicode_utf8_acceptRanges), ("unicode/utf8.first", laid_unicode_utf8_first)] }
def FnExactCountOnSaid : Prop := fnExactCountOnRow.holds Tryd.pinned (OpenSpec.ofChange fnExactCountOnSpec)

/-- ITS FALSE NEIGHBOUR: 'it returns false'. Refute it at one input. -/
def fnExactCountOnWrong : ChangeSpec := { name := "fnExactCountOn", fn := fun _ => fun
  | [d] => { results := [.lit (.bool false)], args := [d] }
  | _ => none }
def FnExactCountOnWrongFalsely : Prop := fnExactCountOnRow.holds Tryd.pinned (OpenSpec.ofChange fnExactCountOnWrong)

/- THE SECOND FORM. 'bulk': how many values and letters a reading holds, each counted each time it is reached (what is shared counts as often as it is met; a slice's spare places count too). A statement '..UptoSaid' is the law's where the arguments, and the package variables that the reading takes, are together of bulk at most 1048576: NARROWER than '..Said'. Prove '..Said' where nothing that the law and all that it calls make is longer than what came in: it says more and counts as full. Else prove '..UptoSaid'. A law counts once. -/
mutual
def uptoBulk {H : Type} : DataW H → Nat
  | .lit (.string bytes) => bytes.length + 1
  | .lit _ => 1
  | .nil => 1
  | .ptr d => uptoBulk d + 1
  | .slice elems spare => uptoBulkAll elems + uptoBulkAll spare + 1
  | .agg parts => uptoBulkAll parts + 1
  | .iface _ d => uptoBulk d + 1
  | .map entries => uptoBulkEntries entries + 1
  | .held _ => 1
def uptoBulkAll {H : Type} : List (DataW H) → Nat
  | [] => 0
  | d :: r => uptoBulk d + uptoBulkAll r
def uptoBulkEntries {H : Type} : List (Lit × DataW H) → Nat
  | [] => 0
  | x :: r => uptoBulkEntry x + uptoBulkEntries r
def uptoBulkEntry {H : Type} : Lit × DataW H → Nat
  | (.string bytes, d) => bytes.length + uptoBulk d + 1
  | (_, d) => uptoBulk d + 1
 end
def uptoSmall : (H : Type) → List (DataW H) → Bool := fun _ ds => decide (uptoBulkAll ds ≤ 1048576)
def OpenSpec.upto (s : _root_.Go.ChangeSpec) : _root_.Go.OpenSpec := { _root_.Go.OpenSpec.ofChange s with cond := some uptoSmall }

/-- 'laws.FnExactIsState', WHERE WHAT IT READS IS OF BULK AT MOST 1048576: true; the input reads as it did. -/
def fnExactIsStateUptoRow : OpenClaim := { program := "ytaohdkpboajbhaadoor", sum := "b402805fabf0fad0227457af10605319c32d93e9b229b83fa84c0ab5c9815349", func := "loop.example/g01314/laws.FnExactIsState", spec := "fnExactIsState", inPlace := ["internal/bytealg.IndexByteString", "internal/bytealg.IndexString"], named := ["unicode/utf8.first", "unicode/utf8.acceptRanges", "internal/bytealg.MaxLen"], apart := false, laid := [("unicode/utf8.acceptRanges", laid_unicode_utf8_acceptRanges), ("unicode/utf8.first", laid_unicode_utf8_first)], narrowed := true }
def FnExactIsStateUptoSaid : Prop := fnExactIsStateUptoRow.holds Tryd.pinned (OpenSpec.upto fnExactIsStateSpec)

/-- 'laws.FnExactNumberOfState', WHERE WHAT IT READS IS OF BULK AT MOST 1048576: true; the input reads as it did. -/
def fnExactNumberOfStateUptoRow : OpenClaim := { program := "ytaohdkpboajbhaadoor", sum := "b402805fabf0fad0227457af10605319c32d93e9b229b83fa84c0ab5c9815349", func := "loop.example/g01314/laws.FnExactNumberOfState", spec := "fnExactNumberOfState", inPlace := ["internal/bytealg.IndexByteString", "internal/bytealg.IndexString"], named := ["unicode/utf8.first", "unicode/utf8.acceptRanges", "internal/bytealg.MaxLen"], apart := false, laid := [("unicode/utf8.acceptRanges", laid_unicode_utf8_acceptRanges), ("unicode/utf8.first", laid_unicode_utf8_first)], narrowed := true }
def FnExactNumberOfStateUptoSaid : Prop := fnExactNumberOfStateUptoRow.holds Tryd.pinned (OpenSpec.upto fnExactNumberOfStateSpec)

/-- 'laws.FnExactMoveRing', WHERE WHAT IT READS IS OF BULK AT MOST 1048576: true; the input reads as it did. -/
def fnExactMoveRingUptoRow : OpenClaim := { program := "ytaohdkpboajbhaadoor", sum := "b402805fabf0fad0227457af10605319c32d93e9b229b83fa84c0ab5c9815349", func := "loop.example/g01314/laws.FnExactMoveRing", spec := "fnExactMoveRing", inPlace := ["internal/bytealg.IndexByteString", "internal/bytealg.IndexString"], named := ["unicode/utf8.first", "unicode/utf8.acceptRanges", "internal/bytealg.MaxLen"], apart := false, laid := [("unicode/utf8.acceptRanges", laid_unicode_utf8_acceptRanges), ("unicode/utf8.first", laid_unicode_utf8_first)], narrowed := true }
def FnExactMoveRingUptoSaid : Prop := fnExactMoveRingUptoRow.holds Tryd.pinned (OpenSpec.upto fnExactMoveRingSpec)

/-- 'laws.FnExactFewestMoves', WHERE WHAT IT READS IS OF BULK AT MOST 1048576: true; the input reads as it did. -/
def fnExactFewestMovesUptoRow : OpenClaim := { program := "ytaohdkpboajbhaadoor", sum := "b402805fabf0fad0227457af10605319c32d93e9b229b83fa84c0ab5c9815349", func := "loop.example/g01314/laws.FnExactFewestMoves", spec := "fnExactFewestMoves", inPlace := ["internal/bytealg.IndexByteString", "internal/bytealg.IndexString"], named := ["unicode/utf8.first", "unicode/utf8.acceptRanges", "internal/bytealg.MaxLen"], apart := false, laid := [("unicode/utf8.acceptRanges", laid_unicode_utf8_acceptRanges), ("unicode/utf8.first", laid_unicode_utf8_first)], narrowed := true }
def FnExactFewestMovesUptoSaid : Prop := fnExactFewestMovesUptoRow.holds Tryd.pinned (OpenSpec.upto fnExactFewestMovesSpec)

/-- 'laws.FnExactMiddleOf', WHERE WHAT IT READS IS OF BULK AT MOST 1048576: true; the input reads as it did. -/
def fnExactMiddleOfUptoRow : OpenClaim := { program := "ytaohdkpboajbhaadoor", sum := "b402805fabf0fad0227457af10605319c32d93e9b229b83fa84c0ab5c9815349", func := "loop.example/g01314/laws.FnExactMiddleOf", spec := "fnExactMiddleOf", inPlace := ["internal/bytealg.IndexByteString", "internal/bytealg.IndexString"], named := ["unicode/utf8.first", "unicode/utf8.acceptRanges", "internal/bytealg.MaxLen"], apart := false, laid := [("unicode/utf8.acceptRanges", laid_unicode_utf8_acceptRanges), ("unicode/utf8.first", laid_unicode_utf8_first)], narrowed := true }
def FnExactMiddleOfUptoSaid : Prop := fnExactMiddleOfUptoRow.holds Tryd.pinned (OpenSpec.upto fnExactMiddleOfSpec)

/-- 'laws.FnExactMovesOf', WHERE WHAT IT READS IS OF BULK AT MOST 1048576: true; the input reads as it did. -/
def fnExactMovesOfUptoRow : OpenClaim := { program := "ytaohdkpboajbhaadoor", sum := "b402805fabf0fad0227457af10605319c32d93e9b229b83fa84c0ab5c9815349", func := "loop.example/g01314/laws.FnExactMovesOf", spec := "fnExactMovesOf", inPlace := ["internal/bytealg.IndexByteString", "internal/bytealg.IndexString"], named := ["unicode/utf8.first", "unicode/utf8.acceptRanges", "internal/bytealg.MaxLen"], apart := false, laid := [("unicode/utf8.acceptRanges", laid_unicode_utf8_acceptRanges), ("unicode/utf8.first", laid_unicode_utf8_first)], narrowed := true }
def FnExactMovesOfUptoSaid : Prop := fnExactMovesOfUptoRow.holds Tryd.pinned (OpenSpec.upto fnExactMovesOfSpec)

/-- 'laws.FnExactNextMove', WHERE WHAT IT READS IS OF BULK AT MOST 1048576: true; the input reads as it did. -/
def fnExactNextMoveUptoRow : OpenClaim := { program := "ytaohdkpboajbhaadoor", sum := "b402805fabf0fad0227457af10605319c32d93e9b229b83fa84c0ab5c9815349", func := "loop.example/g01314/laws.FnExactNextMove", spec := "fnExactNextMove", inPlace := ["internal/bytealg.IndexByteString", "internal/bytealg.IndexString"], named := ["unicode/utf8.first", "unicode/utf8.acceptRanges", "internal/bytealg.MaxLen"], apart := false, laid := [("unicode/utf8.acceptRanges", laid_unicode_utf8_acceptRanges), ("unicode/utf8.first", laid_unicode_utf8_first)], narrowed := true }
def FnExactNextMoveUptoSaid : Prop := fnExactNextMoveUptoRow.holds Tryd.pinned (OpenSpec.upto fnExactNextMoveSpec)

/-- 'laws.FnExactMoveThatFails', WHERE WHAT IT READS IS OF BULK AT MOST 1048576: true; the input reads as it did. -/
def fnExactMoveThatFailsUptoRow : OpenClaim := { program := "ytaohdkpboajbhaadoor", sum := "b402805fabf0fad0227457af10605319c32d93e9b229b83fa84c0ab5c9815349", func := "loop.example/g01314/laws.FnExactMoveThatFails", spec := "fnExactMoveThatFails", inPlace := ["internal/bytealg.IndexByteString", "internal/bytealg.IndexString"], named := ["unicode/utf8.first", "unicode/utf8.acceptRanges", "internal/bytealg.MaxLen"], apart := false, laid := [("unicode/utf8.acceptRanges", laid_unicode_utf8_acceptRanges), ("unicode/utf8.first", laid_unicode_utf8_first)], narrowed := true }
def FnExactMoveThatFailsUptoSaid : Prop := fnExactMoveThatFailsUptoRow.holds Tryd.pinned (OpenSpec.upto fnExactMoveThatFailsSpec)

/-- 'laws.FnExactPlayMoves', WHERE WHAT IT READS IS OF BULK AT MOST 1048576: true; the input reads as it did. -/
def fnExactPlayMovesUptoRow : OpenClaim := { program := "ytaohdkpboajbhaadoor", sum := "b402805fabf0fad0227457af10605319c32d93e9b229b83fa84c0ab5c9815349", func := "loop.example/g01314/laws.FnExactPlayMoves", spec := "fnExactPlayMoves", inPlace := ["internal/bytealg.IndexByteString", "internal/bytealg.IndexString"], named := ["unicode/utf8.first", "unicode/utf8.acceptRanges", "internal/bytealg.MaxLen"], apart := false, laid := [("unicode/utf8.acceptRanges", laid_unicode_utf8_acceptRanges), ("unicode/utf8.first", laid_unicode_utf8_first)], narrowed := true }
def FnExactPlayMovesUptoSaid : Prop := fnExactPlayMovesUptoRow.holds Tryd.pinned (OpenSpec.upto fnExactPlayMovesSpec)

/-- 'laws.FnExactTimesMoved', WHERE WHAT IT READS IS OF BULK AT MOST 1048576: true; the input reads as it did. -/
def fnExactTimesMovedUptoRow : OpenClaim := { program := "ytaohdkpboajbhaadoor", sum := "b402805fabf0fad0227457af10605319c32d93e9b229b83fa84c0ab5c9815349", func := "loop.example/g01314/laws.FnExactTimesMoved", spec := "fnExactTimesMoved", inPlace := ["internal/bytealg.IndexByteString", "internal/bytealg.IndexString"], named := ["unicode/utf8.first", "unicode/utf8.acceptRanges", "internal/bytealg.MaxLen"], apart := false, laid := [("unicode/utf8.acceptRanges", laid_unicode_utf8_acceptRanges), ("unicode/utf8.first", laid_unicode_utf8_first)], narrowed := true }
def FnExactTimesMovedUptoSaid : Prop := fnExactTimesMovedUptoRow.holds Tryd.pinned (OpenSpec.upto fnExactTimesMovedSpec)

/-- 'laws.FnExactFarthestFrom', WHERE WHAT IT READS IS OF BULK AT MOST 1048576: true; the input reads as it did. -/
def fnExactFarthestFromUptoRow : OpenClaim := { program := "ytaohdkpboajbhaadoor", sum := "b402805fabf0fad0227457af10605319c32d93e9b229b83fa84c0ab5c9815349", func := "loop.example/g01314/laws.FnExactFarthestFrom", spec := "fnExactFarthestFrom", inPlace := ["internal/bytealg.IndexByteString", "internal/bytealg.IndexString"], named := ["unicode/utf8.first", "unicode/utf8.acceptRanges", "internal/bytealg.MaxLen"], apart := false, laid := [("unicode/utf8.acceptRanges", laid_unicode_utf8_acceptRanges), ("unicode/utf8.first", laid_unicode_utf8_first)], narrowed := true }
def FnExactFarthestFromUptoSaid : Prop := fnExactFarthestFromUptoRow.holds Tryd.pinned (OpenSpec.upto fnExactFarthestFromSpec)

/-- 'laws.FnExactCountOn', WHERE WHAT IT READS IS OF BULK AT MOST 1048576: true; the input reads as it did. -/
def fnExactCountOnUptoRow : OpenClaim := { program := "ytaohdkpboajbhaadoor", sum := "b402805fabf0fad0227457af10605319c32d93e9b229b83fa84c0ab5c9815349", func := "loop.example/g01314/laws.FnExactCountOn", spec := "fnExactCountOn", inPlace := ["internal/bytealg.IndexByteString", "internal/bytealg.IndexString", "internal/bytealg.CountString"], named := ["unicode/utf8.first", "unicode/utf8.acceptRanges", "internal/bytealg.MaxLen"], apart := false, laid := [("unicode/utf8.acceptRanges", laid_unicode_utf8_acceptRanges), ("unicode/utf8.first", laid_unicode_utf8_first)], narrowed := true }
def FnExactCountOnUptoSaid : Prop := fnExactCountOnUptoRow.holds Tryd.pinned (OpenSpec.upto fnExactCountOnSpec)

end Rows
end Go.Proofs.YtaohdkpboajbhaaDoor
