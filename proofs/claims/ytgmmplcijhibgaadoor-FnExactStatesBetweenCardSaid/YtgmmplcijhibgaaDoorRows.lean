/-
  NARROWER THAN 'FOR EVERY INPUT', by the rows' own cells (each row's printed sentence says how): FnRingsMove: laid · FnWaysLeadOfAll: laid · FnExactRankOfText: laid · FnExactAreKeys: laid · FnExactMakePairMove: laid · FnExactPairMovesOf: laid · FnExactPlayPairMoves: laid · FnExactWayTo: laid · FnExactStatesBetween: laid · FnRingsMoveOfAll: laid.
  DERIVED. THE GIVEN ROWS OF THIS SEAT. 10 by the template 'for every input the law returns true; each argument reads behind the call as it read before'; 0 by the template 'total and deterministic' (their statements: YtgmmplcijhibgaaDoorTotals.lean).
  GIVEN WITH THE SEED: the statements are not yours to turn. If you find one false, say at which input.
  Laid BY PROGRAM, IN A SANDBOX (cutbox-rows.mjs): the forced cells as the released guide's own fill.sh prints them over the translation e9c01fbc745534d6… (all of the seat's roots in one cut). By AI agents, Wed Nov 11 2026. No macro, syntax, notation, axiom, sorry.
-/
import Derived.Test.YtgmmplcijhibgaaDoorChecked
import GoSem.PinnedTables
import GoSem.Claim
import GoSem.ClaimJoined
import GoSem.ClaimMapViews
import Derived.JoinedTies
import Derived.KernelRfl
namespace Go.Proofs.YtgmmplcijhibgaaDoor
/- THE CELL 'sum', in the pinned program and in every row, IS THE sha256 OF THE DUMP (.gsa) THAT YtgmmplcijhibgaaDoorProg.lean LOADS. Nothing in Lean hashes anything: it is a label: what it is worth is what the hold of that sum in a sandbox is worth. -/
noncomputable def Tryd.pinned : Pinned := { name := "ytgmmplcijhibgaadoor", sum := "e9c01fbc745534d64b184c593469faf5e9543a7cab2c97fc73e097da9ec07e44", checked := Tryd.checked }
namespace Rows
def none {H : Type} : Left H := { results := [], args := [] }

/- WHAT THE LISTED PACKAGE-LEVEL VARIABLES READ AS WHEN THE CALL BEGINS. Each datum BY PROGRAM (the guide's laid-datum.mjs) off the statement by which the dump's own 'gosem.cut.vars' lays the variable. In a bare row this is a premise. The card (YtgmmplcijhibgaaDoorCards.lean) ties it to the program's text. -/
def laid_unicode_utf8_acceptRanges {H : Type} : DataW H := .agg [.agg [.lit (.int .u8 128), .lit (.int .u8 191)], .agg [.lit (.int .u8 160), .lit (.int .u8 191)], .agg [.lit (.int .u8 128), .lit (.int .u8 159)], .agg [.lit (.int .u8 144), .lit (.int .u8 191)], .agg [.lit (.int .u8 128), .lit (.int .u8 143)], .agg [.lit (.int .u8 0), .lit (.int .u8 0)], .agg [.lit (.int .u8 0), .lit (.int .u8 0)], .agg [.lit (.int .u8 0), .lit (.int .u8 0)], .agg [.lit (.int .u8 0), .lit (.int .u8 0)], .agg [.lit (.int .u8 0), .lit (.int .u8 0)], .agg [.lit (.int .u8 0), .lit (.int .u8 0)], .agg [.lit (.int .u8 0), .lit (.int .u8 0)], .agg [.lit (.int .u8 0), .lit (.int .u8 0)], .agg [.lit (.int .u8 0), .lit (.int .u8 0)], .agg [.lit (.int .u8 0), .lit (.int .u8 0)], .agg [.lit (.int .u8 0), .lit (.int .u8 0)]]
/-- One of Go's own tables, pinned by name: the form's constant. -/
def laid_unicode_utf8_first : DataW Unit := Go.Pinned.utf8First

/-- 'laws.FnRingsMove': WHATEVER THE INPUT: true; the input reads as it did. -/
def fnRingsMoveSpec : ChangeSpec := { name := "fnRingsMove", fn := fun _ => fun
  | [d1, d2] => { results := [.lit (.bool true)], args := [d1, d2] }
  | _ => none }
def fnRingsMoveRow : OpenClaim := { program := "ytgmmplcijhibgaadoor", sum := "e9c01fbc745534d64b184c593469faf5e9543a7cab2c97fc73e097da9ec07e44", func := "loop.example/g01314/laws.FnRingsMove", spec := "fnRingsMove", inPlace := ["internal/bytealg.IndexByteString", "internal/bytealg.IndexString", "internal/bytealg.CountString"], named := ["unicode/utf8.first", "unicode/utf8.acceptRanges", "internal/bytealg.MaxLen"], apart := false, laid := [("unicode/utf8.acceptRanges", laid_unicode_utf8_acceptRanges), ("unicode/utf8.first", laid_unicode_utf8_first)] }
def FnRingsMoveSaid : Prop := fnRingsMoveRow.holds Tryd.pinned (OpenSpec.ofChange fnRingsMoveSpec)

/-- ITS FALSE NEIGHBOUR: 'it returns false'. Refute it at one input. -/
def fnRingsMoveWrong : ChangeSpec := { name := "fnRingsMove", fn := fun _ => fun
  | [d1, d2] => { results := [.lit (.bool false)], args := [d1, d2] }
  | _ => none }
def FnRingsMoveWrongFalsely : Prop := fnRingsMoveRow.holds Tryd.pinned (OpenSpec.ofChange fnRingsMoveWrong)

/-- 'laws.FnWaysLeadOfAll': WHATEVER THE INPUT: true; the input reads as it did. -/
def fnWaysLeadOfAllSpec : ChangeSpec := { name := "fnWaysLeadOfAll", fn := fun _ => fun
  | [d1, d2, d3, d4, d5] => { results := [.lit (.bool true)], args := [d1, d2, d3, d4, d5] }
  | _ => none }
def fnWaysLeadOfAllRow : OpenClaim := { program := "ytgmmplcijhibgaadoor", sum := "e9c01fbc745534d64b184c593469faf5e9543a7cab2c97fc73e097da9ec07e44", func := "loop.example/g01314/laws.FnWaysLeadOfAll", spec := "fnWaysLeadOfAll", inPlace := ["internal/bytealg.IndexByteString", "internal/bytealg.IndexString", "internal/abi.NoEscape", "internal/bytealg.MakeNoZero"], unfollowed := true, recurses := true, named := ["unicode/utf8.first", "unicode/utf8.acceptRanges", "internal/bytealg.MaxLen"], apart := false, laid := [("unicode/utf8.acceptRanges", laid_unicode_utf8_acceptRanges), ("unicode/utf8.first", laid_unicode_utf8_first)] }
def FnWaysLeadOfAllSaid : Prop := fnWaysLeadOfAllRow.holds Tryd.pinned (OpenSpec.ofChange fnWaysLeadOfAllSpec)

/-- ITS FALSE NEIGHBOUR: 'it returns false'. Refute it at one input. -/
def fnWaysLeadOfAllWrong : ChangeSpec := { name := "fnWaysLeadOfAll", fn := fun _ => fun
  | [d1, d2, d3, d4, d5] => { results := [.lit (.bool false)], args := [d1, d2, d3, d4, d5] }
  | _ => none }
def FnWaysLeadOfAllWrongFalsely : Prop := fnWaysLeadOfAllRow.holds Tryd.pinned (OpenSpec.ofChange fnWaysLeadOfAllWrong)

/-- 'laws.FnExactRankOfText': WHATEVER THE INPUT: true; the input reads as it did. -/
def fnExactRankOfTextSpec : ChangeSpec := { name := "fnExactRankOfText", fn := fun _ => fun
  | [d] => { results := [.lit (.bool true)], args := [d] }
  | _ => none }
def fnExactRankOfTextRow : OpenClaim := { program := "ytgmmplcijhibgaadoor", sum := "e9c01fbc745534d64b184c593469faf5e9543a7cab2c97fc73e097da9ec07e44", func := "loop.example/g01314/laws.FnExactRankOfText", spec := "fnExactRankOfText", inPlace := ["internal/bytealg.IndexByteString", "internal/bytealg.IndexString"], named := ["unicode/utf8.first", "unicode/utf8.acceptRanges", "internal/bytealg.MaxLen"], apart := false, laid := [("unicode/utf8.acceptRanges", laid_unicode_utf8_acceptRanges), ("unicode/utf8.first", laid_unicode_utf8_first)] }
def FnExactRankOfTextSaid : Prop := fnExactRankOfTextRow.holds Tryd.pinned (OpenSpec.ofChange fnExactRankOfTextSpec)

/-- ITS FALSE NEIGHBOUR: 'it returns false'. Refute it at one input. -/
def fnExactRankOfTextWrong : ChangeSpec := { name := "fnExactRankOfText", fn := fun _ => fun
  | [d] => { results := [.lit (.bool false)], args := [d] }
  | _ => none }
def FnExactRankOfTextWrongFalsely : Prop := fnExactRankOfTextRow.holds Tryd.pinned (OpenSpec.ofChange fnExactRankOfTextWrong)

/-- 'laws.FnExactAreKeys': WHATEVER THE INPUT: true; the input reads as it did. -/
def fnExactAreKeysSpec : ChangeSpec := { name := "fnExactAreKeys", fn := fun _ => fun
  | [d] => { results := [.lit (.bool true)], args := [d] }
  | _ => none }
def fnExactAreKeysRow : OpenClaim := { program := "ytgmmplcijhibgaadoor", sum := "e9c01fbc745534d64b184c593469faf5e9543a7cab2c97fc73e097da9ec07e44", func := "loop.example/g01314/laws.FnExactAreKeys", spec := "fnExactAreKeys", inPlace := ["internal/bytealg.IndexByteString", "internal/bytealg.IndexString"], named := ["unicode/utf8.first", "unicode/utf8.acceptRanges", "internal/bytealg.MaxLen"], apart := false, laid := [("unicode/utf8.acceptRanges", laid_unicode_utf8_acceptRanges), ("unicode/utf8.first", laid_unicode_utf8_first)] }
def FnExactAreKeysSaid : Prop := fnExactAreKeysRow.holds Tryd.pinned (OpenSpec.ofChange fnExactAreKeysSpec)

/-- ITS FALSE NEIGHBOUR: 'it returns false'. Refute it at one input. -/
def fnExactAreKeysWrong : ChangeSpec := { name := "fnExactAreKeys", fn := fun _ => fun
  | [d] => { results := [.lit (.bool false)], args := [d] }
  | _ => none }
def FnExactAreKeysWrongFalsely : Prop := fnExactAreKeysRow.holds Tryd.pinned (OpenSpec.ofChange fnExactAreKeysWrong)

/-- 'laws.FnExactMakePairMove': WHATEVER THE INPUT: true; the input reads as it did. -/
def fnExactMakePairMoveSpec : ChangeSpec := { name := "fnExactMakePairMove", fn := fun _ => fun
  | [d1, d2] => { results := [.lit (.bool true)], args := [d1, d2] }
  | _ => none }
def fnExactMakePairMoveRow : OpenClaim := { program := "ytgmmplcijhibgaadoor", sum := "e9c01fbc745534d64b184c593469faf5e9543a7cab2c97fc73e097da9ec07e44", func := "loop.example/g01314/laws.FnExactMakePairMove", spec := "fnExactMakePairMove", inPlace := ["internal/bytealg.IndexByteString", "internal/bytealg.IndexString"], named := ["unicode/utf8.first", "unicode/utf8.acceptRanges", "internal/bytealg.MaxLen"], apart := false, laid := [("unicode/utf8.acceptRanges", laid_unicode_utf8_acceptRanges), ("unicode/utf8.first", laid_unicode_utf8_first)] }
def FnExactMakePairMoveSaid : Prop := fnExactMakePairMoveRow.holds Tryd.pinned (OpenSpec.ofChange fnExactMakePairMoveSpec)

/-- ITS FALSE NEIGHBOUR: 'it returns false'. Refute it at one input. -/
def fnExactMakePairMoveWrong : ChangeSpec := { name := "fnExactMakePairMove", fn := fun _ => fun
  | [d1, d2] => { results := [.lit (.bool false)], args := [d1, d2] }
  | _ => none }
def FnExactMakePairMoveWrongFalsely : Prop := fnExactMakePairMoveRow.holds Tryd.pinned (OpenSpec.ofChange fnExactMakePairMoveWrong)

/-- 'laws.FnExactPairMovesOf': WHATEVER THE INPUT: true; the input reads as it did. -/
def fnExactPairMovesOfSpec : ChangeSpec := { name := "fnExactPairMovesOf", fn := fun _ => fun
  | [d] => { results := [.lit (.bool true)], args := [d] }
  | _ => none }
def fnExactPairMovesOfRow : OpenClaim := { program := "ytgmmplcijhibgaadoor", sum := "e9c01fbc745534d64b184c593469faf5e9543a7cab2c97fc73e097da9ec07e44", func := "loop.example/g01314/laws.FnExactPairMovesOf", spec := "fnExactPairMovesOf", inPlace := ["internal/bytealg.IndexByteString", "internal/bytealg.IndexString"], named := ["unicode/utf8.first", "unicode/utf8.acceptRanges", "internal/bytealg.MaxLen"], apart := false, laid := [("unicode/utf8.acceptRanges", laid_unicode_utf8_acceptRanges), ("unicode/utf8.first", laid_unicode_utf8_first)] }
def FnExactPairMovesOfSaid : Prop := fnExactPairMovesOfRow.holds Tryd.pinned (OpenSpec.ofChange fnExactPairMovesOfSpec)

/-- ITS FALSE NEIGHBOUR: 'it returns false'. Refute it at one input. -/
def fnExactPairMovesOfWrong : ChangeSpec := { name := "fnExactPairMovesOf", fn := fun _ => fun
  | [d] => { results := [.lit (.bool false)], args := [d] }
  | _ => none }
def FnExactPairMovesOfWrongFalsely : Prop := fnExactPairMovesOfRow.holds Tryd.pinned (OpenSpec.ofChange fnExactPairMovesOfWrong)

/-- 'laws.FnExactPlayPairMoves': WHATEVER THE INPUT: true; the input reads as it did. -/
def fnExactPlayPairMovesSpec : ChangeSpec := { name := "fnExactPlayPairMoves", fn := fun _ => fun
  | [d1, d2] => { results := [.lit (.bool true)], args := [d1, d2] }
  | _ => none }
def fnExactPlayPairMovesRow : OpenClaim := { program := "ytgmmplcijhibgaadoor", sum := "e9c01fbc745534d64b184c593469faf5e9543a7cab2c97fc73e097da9ec07e44", func := "loop.example/g01314/laws.FnExactPlayPairMoves", spec := "fnExactPlayPairMoves", inPlace := ["internal/bytealg.IndexByteString", "internal/bytealg.IndexString"], named := ["unicode/utf8.first", "unicode/utf8.acceptRanges", "internal/bytealg.MaxLen"], apart := false, laid := [("unicode/utf8.acceptRanges", laid_unicode_utf8_acceptRanges), ("unicode/utf8.first", laid_unicode_utf8_first)] }
def FnExactPlayPairMovesSaid : Prop := fnExactPlayPairMovesRow.holds Tryd.pinned (OpenSpec.ofChange fnExactPlayPairMovesSpec)

/-- ITS FALSE NEIGHBOUR: 'it returns false'. Refute it at one input. -/
def fnExactPlayPairMovesWrong : ChangeSpec := { name := "fnExactPlayPairMoves", fn := fun _ => fun
  | [d1, d2] => { results := [.lit (.bool false)], args := [d1, d2] }
  | _ => none }
def FnExactPlayPairMovesWrongFalsely : Prop := fnExactPlayPairMovesRow.holds Tryd.pinned (OpenSpec.ofChange fnExactPlayPairMovesWrong)

/-- 'laws.FnExactWayTo': WHATEVER THE INPUT: true; the input reads as it did. -/
def fnExactWayToSpec : ChangeSpec := { name := "fnExactWayTo", fn := fun _ => fun
  | [d1, d2] => { results := [.lit (.bool true)], args := [d1, d2] }
  | _ => none }
def fnExactWayToRow : OpenClaim := { program := "ytgmmplcijhibgaadoor", sum := "e9c01fbc745534d64b184c593469faf5e9543a7cab2c97fc73e097da9ec07e44", func := "loop.example/g01314/laws.FnExactWayTo", spec := "fnExactWayTo", inPlace := ["internal/bytealg.IndexByteString", "internal/bytealg.IndexString"], named := ["unicode/utf8.first", "unicode/utf8.acceptRanges", "internal/bytealg.MaxLen"], apart := false, laid := [("unicode/utf8.acceptRanges", laid_unicode_utf8_acceptRanges), ("unicode/utf8.first", laid_unicode_utf8_first)] }
def FnExactWayToSaid : Prop := fnExactWayToRow.holds Tryd.pinned (OpenSpec.ofChange fnExactWayToSpec)

/-- ITS FALSE NEIGHBOUR: 'it returns false'. Refute it at one input. -/
def fnExactWayToWrong : ChangeSpec := { name := "fnExactWayTo", fn := fun _ => fun
  | [d1, d2] => { results := [.lit (.bool false)], args := [d1, d2] }
  | _ => none }
def FnExactWayToWrongFalsely : Prop := fnExactWayToRow.holds Tryd.pinned (OpenSpec.ofChange fnExactWayToWrong)

/-- 'laws.FnExactStatesBetween': WHATEVER THE INPUT: true; the input reads as it did. -/
def fnExactStatesBetweenSpec : ChangeSpec := { name := "fnExactStatesBetween", fn := fun _ => fun
  | [d1, d2] => { results := [.lit (.bool true)], args := [d1, d2] }
  | _ => none }
def fnExactStatesBetweenRow : OpenClaim := { program := "ytgmmplcijhibgaadoor", sum := "e9c01fbc745534d64b184c593469faf5e9543a7cab2c97fc73e097da9ec07e44", func := "loop.example/g01314/laws.FnExactStatesBetween", spec := "fnExactStatesBetween", inPlace := ["internal/bytealg.IndexByteString", "internal/bytealg.IndexString"], named := ["unicode/utf8.first", "unicode/utf8.acceptRanges", "internal/bytealg.MaxLen"], apart := false, laid := [("unicode/utf8.acceptRanges", laid_unicode_utf8_acceptRanges), ("unicode/utf8.first", laid_unicode_utf8_first)] }
def FnExactStatesBetweenSaid : Prop := fnExactStatesBetweenRow.holds Tryd.pinned (OpenSpec.ofChange fnExactStatesBetweenSpec)

/-- ITS FALSE NEIGHBOUR: 'it returns false'. Refute it at one input. -/
def fnExactStatesBetweenWrong : ChangeSpec := { name := "fnExactStatesBetween", fn := fun _ => fun
  | [d1, d2] => { results := [.lit (.bool false)], args := [d1, d2] }
  | _ => none }
def FnExactStatesBetweenWrongFalsely : Prop := fnExactStatesBetweenRow.holds Tryd.pinned (OpenSpec.ofChange fnExactStatesBetweenWrong)

/-- 'laws.FnRingsMoveOfAll': WHATEVER THE INPUT: true; the input reads as it did. -/
def fnRingsMoveOfAllSpec : ChangeSpec := { name := "fnRingsMoveOfAll", fn := fun _ => fun
  | [d1, d2, d3, d4, d5, d6, d7] => { results := [.lit (.bool true)], args := [d1, d2, d3, d4, d5, d6, d7] }
  | _ => none }
def fnRingsMoveOfAllRow : OpenClaim := { program := "ytgmmplcijhibgaadoor", sum := "e9c01fbc745534d64b184c593469faf5e9543a7cab2c97fc73e097da9ec07e44", func := "loop.example/g01314/laws.FnRingsMoveOfAll", spec := "fnRingsMoveOfAll", inPlace := ["internal/bytealg.IndexByteString", "internal/bytealg.IndexString", "internal/bytealg.CountString"], named := ["unicode/utf8.first", "unicode/utf8.acceptRanges", "internal/bytealg.MaxLen"], apart := false, laid := [("unicode/utf8.acceptRanges", laid_unicode_utf8_acceptRanges), ("unicode/utf8.first", laid_unicode_utf8_first)] }
def FnRingsMoveOfAllSaid : Prop := fnRingsMoveOfAllRow.holds Tryd.pinned (OpenSpec.ofChange fnRingsMoveOfAllSpec)

/-- ITS FALSE NEIGHBOUR: 'it returns false'. Refute it at one input. -/
def fnRingsMoveOfAllWrong : ChangeSpec := { name := "fnRingsMoveOfAll", fn := fun _ => fun
  | [d1, d2, d3, d4, d5, d6, d7] => { results := [.lit (.bool false)], args := [d1, d2, d3, d4, d5, d6, d7] }
  | _ => none }
def FnRingsMoveOfAllWrongFalsely : Prop := fnRingsMoveOfAllRow.holds Tryd.pinned (OpenSpec.ofChange fnRingsMoveOfAllWrong)

/- THE SECOND FORM. 'bulk': how many values and letters a reading holds, each counted each time it is reached (what is shared counts as often as it is met; a slice's spare places count too). A statement '..UptoSaid' is the law's where the arguments, and the package variables that the reading takes, are together of bulk at most 1048576: NARROWER than '..Said'. Prove '..Said' where nothing that the law and all that it calls make is longer than what came in: it says more and counts as full. Else prove '..UptoSaid'. A law counts once. -/
mutual
def uptoBulk {H : Type} : DataW H → Nat
  | .lit (.string bytes) => bytes.length + 1
  | .lit _ => 1
  | .nil => 1
  | .ptr d => uptoBulk d + 1
  | .slice elems spare => uptoBulkAll elems + uptoBulkAll spare + 1
  | .agg parts => uptoBulkAll parts + 1
  | .iface _ d => uptoBulk d + 1
  | .map entries => uptoBulkEntries entries + 1
  | .held _ => 1
def uptoBulkAll {H : Type} : List (DataW H) → Nat
  | [] => 0
  | d :: r => uptoBulk d + uptoBulkAll r
def uptoBulkEntries {H : Type} : List (Lit × DataW H) → Nat
  | [] => 0
  | x :: r => uptoBulkEntry x + uptoBulkEntries r
def uptoBulkEntry {H : Type} : Lit × DataW H → Nat
  | (.string bytes, d) => bytes.length + uptoBulk d + 1
  | (_, d) => uptoBulk d + 1
 end
def uptoSmall : (H : Type) → List (DataW H) → Bool := fun _ ds => decide (uptoBulkAll ds ≤ 1048576)
def OpenSpec.upto (s : _root_.Go.ChangeSpec) : _root_.Go.OpenSpec := { _root_.Go.OpenSpec.ofChange s with cond := some uptoSmall }

/-- 'laws.FnRingsMove', WHERE WHAT IT READS IS OF BULK AT MOST 1048576: true; the input reads as it did. -/
def fnRingsMoveUptoRow : OpenClaim := { program := "ytgmmplcijhibgaadoor", sum := "e9c01fbc745534d64b184c593469faf5e9543a7cab2c97fc73e097da9ec07e44", func := "loop.example/g01314/laws.FnRingsMove", spec := "fnRingsMove", inPlace := ["internal/bytealg.IndexByteString", "internal/bytealg.IndexString", "internal/bytealg.CountString"], named := ["unicode/utf8.first", "unicode/utf8.acceptRanges", "internal/bytealg.MaxLen"], apart := false, laid := [("unicode/utf8.acceptRanges", laid_unicode_utf8_acceptRanges), ("unicode/utf8.first", laid_unicode_utf8_first)], narrowed := true }
def FnRingsMoveUptoSaid : Prop := fnRingsMoveUptoRow.holds Tryd.pinned (OpenSpec.upto fnRingsMoveSpec)

/-- 'laws.FnWaysLeadOfAll', WHERE WHAT IT READS IS OF BULK AT MOST 1048576: true; the input reads as it did. -/
def fnWaysLeadOfAllUptoRow : OpenClaim := { program := "ytgmmplcijhibgaadoor", sum := "e9c01fbc745534d64b184c593469faf5e9543a7cab2c97fc73e097da9ec07e44", func := "loop.example/g01314/laws.FnWaysLeadOfAll", spec := "fnWaysLeadOfAll", inPlace := ["internal/bytealg.IndexByteString", "internal/bytealg.IndexString", "internal/abi.NoEscape", "internal/bytealg.MakeNoZero"], unfollowed := true, recurses := true, named := ["unicode/utf8.first", "unicode/utf8.acceptRanges", "internal/bytealg.MaxLen"], apart := false, laid := [("unicode/utf8.acceptRanges", laid_unicode_utf8_acceptRanges), ("unicode/utf8.first", laid_unicode_utf8_first)], narrowed := true }
def FnWaysLeadOfAllUptoSaid : Prop := fnWaysLeadOfAllUptoRow.holds Tryd.pinned (OpenSpec.upto fnWaysLeadOfAllSpec)

/-- 'laws.FnExactRankOfText', WHERE WHAT IT READS IS OF BULK AT MOST 1048576: true; the input reads as it did. -/
def fnExactRankOfTextUptoRow : OpenClaim := { program := "ytgmmplcijhibgaadoor", sum := "e9c01fbc745534d64b184c593469faf5e9543a7cab2c97fc73e097da9ec07e44", func := "loop.example/g01314/laws.FnExactRankOfText", spec := "fnExactRankOfText", inPlace := ["internal/bytealg.IndexByteString", "internal/bytealg.IndexString"], named := ["unicode/utf8.first", "unicode/utf8.acceptRanges", "internal/bytealg.MaxLen"], apart := false, laid := [("unicode/utf8.acceptRanges", laid_unicode_utf8_acceptRanges), ("unicode/utf8.first", laid_unicode_utf8_first)], narrowed := true }
def FnExactRankOfTextUptoSaid : Prop := fnExactRankOfTextUptoRow.holds Tryd.pinned (OpenSpec.upto fnExactRankOfTextSpec)

/-- 'laws.FnExactAreKeys', WHERE WHAT IT READS IS OF BULK AT MOST 1048576: true; the input reads as it did. -/
def fnExactAreKeysUptoRow : OpenClaim := { program := "ytgmmplcijhibgaadoor", sum := "e9c01fbc745534d64b184c593469faf5e9543a7cab2c97fc73e097da9ec07e44", func := "loop.example/g01314/laws.FnExactAreKeys", spec := "fnExactAreKeys", inPlace := ["internal/bytealg.IndexByteString", "internal/bytealg.IndexString"], named := ["unicode/utf8.first", "unicode/utf8.acceptRanges", "internal/bytealg.MaxLen"], apart := false, laid := [("unicode/utf8.acceptRanges", laid_unicode_utf8_acceptRanges), ("unicode/utf8.first", laid_unicode_utf8_first)], narrowed := true }
def FnExactAreKeysUptoSaid : Prop := fnExactAreKeysUptoRow.holds Tryd.pinned (OpenSpec.upto fnExactAreKeysSpec)

/-- 'laws.FnExactMakePairMove', WHERE WHAT IT READS IS OF BULK AT MOST 1048576: true; the input reads as it did. -/
def fnExactMakePairMoveUptoRow : OpenClaim := { program := "ytgmmplcijhibgaadoor", sum := "e9c01fbc745534d64b184c593469faf5e9543a7cab2c97fc73e097da9ec07e44", func := "loop.example/g01314/laws.FnExactMakePairMove", spec := "fnExactMakePairMove", inPlace := ["internal/bytealg.IndexByteString", "internal/bytealg.IndexString"], named := ["unicode/utf8.first", "unicode/utf8.acceptRanges", "internal/bytealg.MaxLen"], apart := false, laid := [("unicode/utf8.acceptRanges", laid_unicode_utf8_acceptRanges), ("unicode/utf8.first", laid_unicode_utf8_first)], narrowed := true }
def FnExactMakePairMoveUptoSaid : Prop := fnExactMakePairMoveUptoRow.holds Tryd.pinned (OpenSpec.upto fnExactMakePairMoveSpec)

/-- 'laws.FnExactPairMovesOf', WHERE WHAT IT READS IS OF BULK AT MOST 1048576: true; the input reads as it did. -/
def fnExactPairMovesOfUptoRow : OpenClaim := { program := "ytgmmplcijhibgaadoor", sum := "e9c01fbc745534d64b184c593469faf5e9543a7cab2c97fc73e097da9ec07e44", func := "loop.example/g01314/laws.FnExactPairMovesOf", spec := "fnExactPairMovesOf", inPlace := ["internal/bytealg.IndexByteString", "internal/bytealg.IndexString"], named := ["unicode/utf8.first", "unicode/utf8.acceptRanges", "internal/bytealg.MaxLen"], apart := false, laid := [("unicode/utf8.acceptRanges", laid_unicode_utf8_acceptRanges), ("unicode/utf8.first", laid_unicode_utf8_first)], narrowed := true }
def FnExactPairMovesOfUptoSaid : Prop := fnExactPairMovesOfUptoRow.holds Tryd.pinned (OpenSpec.upto fnExactPairMovesOfSpec)

/-- 'laws.FnExactPlayPairMoves', WHERE WHAT IT READS IS OF BULK AT MOST 1048576: true; the input reads as it did. -/
def fnExactPlayPairMovesUptoRow : OpenClaim := { program := "ytgmmplcijhibgaadoor", sum := "e9c01fbc745534d64b184c593469faf5e9543a7cab2c97fc73e097da9ec07e44", func := "loop.example/g01314/laws.FnExactPlayPairMoves", spec := "fnExactPlayPairMoves", inPlace := ["internal/bytealg.IndexByteString", "internal/bytealg.IndexString"], named := ["unicode/utf8.first", "unicode/utf8.acceptRanges", "internal/bytealg.MaxLen"], apart := false, laid := [("unicode/utf8.acceptRanges", laid_unicode_utf8_acceptRanges), ("unicode/utf8.first", laid_unicode_utf8_first)], narrowed := true }
def FnExactPlayPairMovesUptoSaid : Prop := fnExactPlayPairMovesUptoRow.holds Tryd.pinned (OpenSpec.upto fnExactPlayPairMovesSpec)

/-- 'laws.FnExactWayTo', WHERE WHAT IT READS IS OF BULK AT MOST 1048576: true; the input reads as it did. -/
def fnExactWayToUptoRow : OpenClaim := { program := "ytgmmplcijhibgaadoor", sum := "e9c01fbc745534d64b184c593469faf5e9543a7cab2c97fc73e097da9ec07e44", func := "loop.example/g01314/laws.FnExactWayTo", spec := "fnExactWayTo", inPlace := ["internal/bytealg.IndexByteString", "internal/bytealg.IndexString"], named := ["unicode/utf8.first", "unicode/utf8.acceptRanges", "internal/bytealg.MaxLen"], apart := false, laid := [("unicode/utf8.acceptRanges", laid_unicode_utf8_acceptRanges), ("unicode/utf8.first", laid_unicode_utf8_first)], narrowed := true }
def FnExactWayToUptoSaid : Prop := fnExactWayToUptoRow.holds Tryd.pinned (OpenSpec.upto fnExactWayToSpec)

/-- 'laws.FnExactStatesBetween', WHERE WHAT IT READS IS OF BULK AT MOST 1048576: true; the input reads as it did. -/
def fnExactStatesBetweenUptoRow : OpenClaim := { program := "ytgmmplcijhibgaadoor", sum := "e9c01fbc745534d64b184c593469faf5e9543a7cab2c97fc73e097da9ec07e44", func := "loop.example/g01314/laws.FnExactStatesBetween", spec := "fnExactStatesBetween", inPlace := ["internal/bytealg.IndexByteString", "internal/bytealg.IndexString"], named := ["unicode/utf8.first", "unicode/utf8.acceptRanges", "internal/bytealg.MaxLen"], apart := false, laid := [("unicode/utf8.acceptRanges", laid_unicode_utf8_acceptRanges), ("unicode/utf8.first", laid_unicode_utf8_first)], narrowed := true }
def FnExactStatesBetweenUptoSaid : Prop := fnExactStatesBetweenUptoRow.holds Tryd.pinned (OpenSpec.upto fnExactStatesBetweenSpec)

/-- 'laws.FnRingsMoveOfAll', WHERE WHAT IT READS IS OF BULK AT MOST 1048576: true; the input reads as it did. -/
def fnRingsMoveOfAllUptoRow : OpenClaim := { program := "ytgmmplcijhibgaadoor", sum := "e9c01fbc745534d64b184c593469faf5e9543a7cab2c97fc73e097da9ec07e44", func := "loop.example/g01314/laws.FnRingsMoveOfAll", spec := "fnRingsMoveOfAll", inPlace := ["internal/bytealg.IndexByteString", "internal/bytealg.IndexString", "internal/bytealg.CountString"], named := ["unicode/utf8.first", "unicode/utf8.acceptRanges", "internal/bytealg.MaxLen"], apart := false, laid := [("unicode/utf8.acceptRanges", laid_unicode_utf8_acceptRanges), ("unicode/utf8.first", laid_unicode_utf8_first)], narrowed := true }
def FnRingsMoveOfAllUptoSaid : Prop := fnRingsMoveOfAllUptoRow.holds Tryd.pinned (OpenSpec.upto fnRingsMoveOfAllSpec)

end Rows
end Go.Proofs.YtgmmplcijhibgaaDoor
