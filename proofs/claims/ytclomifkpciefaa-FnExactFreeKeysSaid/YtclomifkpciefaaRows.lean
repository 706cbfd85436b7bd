/-
  No cell of these rows narrows 'for every input' (looked for: loops, veiled, ifaces, maps, wideKeys, modest, calm, conditions, laid).
  DERIVED. THE GIVEN ROWS OF THIS SEAT. 12 by the template 'for every input the law returns true; each argument reads behind the call as it read before'; 0 by the template 'total and deterministic' (their statements: YtclomifkpciefaaTotals.lean).
  GIVEN WITH THE SEED: the statements are not yours to turn. If you find one false, say at which input.
  Laid BY PROGRAM, IN A SANDBOX (cutbox-rows.mjs): the forced cells as the released guide's own fill.sh prints them over the translation eeceaf9e8d984ec9… (all of the seat's roots in one cut). By AI agents, Wed Nov 11 2026. No macro, syntax, notation, axiom, sorry.
-/
import Derived.Test.YtclomifkpciefaaChecked
import GoSem.Claim
import GoSem.ClaimJoined
import GoSem.ClaimMapViews
import Derived.JoinedTies
import Derived.KernelRfl
namespace Go.Proofs.Ytclomifkpciefaa
/- THE CELL 'sum', in the pinned program and in every row, IS THE sha256 OF THE DUMP (.gsa) THAT YtclomifkpciefaaProg.lean LOADS. Nothing in Lean hashes anything: it is a label: what it is worth is what the hold of that sum in a sandbox is worth. -/
noncomputable def Try.pinned : Pinned := { name := "ytclomifkpciefaa", sum := "eeceaf9e8d984ec9d6c973252f56702c85b02546d72d98d121a80115c3e8dd83", checked := Try.checked }
namespace Rows
def none {H : Type} : Left H := { results := [], args := [] }

/-- 'laws.FnExactParseMoves': WHATEVER THE INPUT: true; the input reads as it did. -/
def fnExactParseMovesSpec : ChangeSpec := { name := "fnExactParseMoves", fn := fun _ => fun
  | [d] => { results := [.lit (.bool true)], args := [d] }
  | _ => none }
def fnExactParseMovesRow : OpenClaim := { program := "ytclomifkpciefaa", sum := "eeceaf9e8d984ec9d6c973252f56702c85b02546d72d98d121a80115c3e8dd83", func := "loop.example/g01314/laws.FnExactParseMoves", spec := "fnExactParseMoves", apart := false }
def FnExactParseMovesSaid : Prop := fnExactParseMovesRow.holds Try.pinned (OpenSpec.ofChange fnExactParseMovesSpec)

/-- ITS FALSE NEIGHBOUR: 'it returns false'. Refute it at one input. -/
def fnExactParseMovesWrong : ChangeSpec := { name := "fnExactParseMoves", fn := fun _ => fun
  | [d] => { results := [.lit (.bool false)], args := [d] }
  | _ => none }
def FnExactParseMovesWrongFalsely : Prop := fnExactParseMovesRow.holds Try.pinned (OpenSpec.ofChange fnExactParseMovesWrong)

/-- 'laws.FnExactMovesText': WHATEVER THE INPUT: true; the input reads as it did. -/
def fnExactMovesTextSpec : ChangeSpec := { name := "fnExactMovesText", fn := fun _ => fun
  | [d] => { results := [.lit (.bool true)], args := [d] }
  | _ => none }
def fnExactMovesTextRow : OpenClaim := { program := "ytclomifkpciefaa", sum := "eeceaf9e8d984ec9d6c973252f56702c85b02546d72d98d121a80115c3e8dd83", func := "loop.example/g01314/laws.FnExactMovesText", spec := "fnExactMovesText", unfollowed := true, recurses := true, apart := false }
def FnExactMovesTextSaid : Prop := fnExactMovesTextRow.holds Try.pinned (OpenSpec.ofChange fnExactMovesTextSpec)

/-- ITS FALSE NEIGHBOUR: 'it returns false'. Refute it at one input. -/
def fnExactMovesTextWrong : ChangeSpec := { name := "fnExactMovesText", fn := fun _ => fun
  | [d] => { results := [.lit (.bool false)], args := [d] }
  | _ => none }
def FnExactMovesTextWrongFalsely : Prop := fnExactMovesTextRow.holds Try.pinned (OpenSpec.ofChange fnExactMovesTextWrong)

/-- 'laws.FnExactBarBolts': WHATEVER THE INPUT: true; the input reads as it did. -/
def fnExactBarBoltsSpec : ChangeSpec := { name := "fnExactBarBolts", fn := fun _ => fun
  | [d] => { results := [.lit (.bool true)], args := [d] }
  | _ => none }
def fnExactBarBoltsRow : OpenClaim := { program := "ytclomifkpciefaa", sum := "eeceaf9e8d984ec9d6c973252f56702c85b02546d72d98d121a80115c3e8dd83", func := "loop.example/g01314/laws.FnExactBarBolts", spec := "fnExactBarBolts", apart := false }
def FnExactBarBoltsSaid : Prop := fnExactBarBoltsRow.holds Try.pinned (OpenSpec.ofChange fnExactBarBoltsSpec)

/-- ITS FALSE NEIGHBOUR: 'it returns false'. Refute it at one input. -/
def fnExactBarBoltsWrong : ChangeSpec := { name := "fnExactBarBolts", fn := fun _ => fun
  | [d] => { results := [.lit (.bool false)], args := [d] }
  | _ => none }
def FnExactBarBoltsWrongFalsely : Prop := fnExactBarBoltsRow.holds Try.pinned (OpenSpec.ofChange fnExactBarBoltsWrong)

/-- 'laws.FnExactAreBolts': WHATEVER THE INPUT: true; the input reads as it did. -/
def fnExactAreBoltsSpec : ChangeSpec := { name := "fnExactAreBolts", fn := fun _ => fun
  | [d] => { results := [.lit (.bool true)], args := [d] }
  | _ => none }
def fnExactAreBoltsRow : OpenClaim := { program := "ytclomifkpciefaa", sum := "eeceaf9e8d984ec9d6c973252f56702c85b02546d72d98d121a80115c3e8dd83", func := "loop.example/g01314/laws.FnExactAreBolts", spec := "fnExactAreBolts", unfollowed := true, recurses := true, apart := false }
def FnExactAreBoltsSaid : Prop := fnExactAreBoltsRow.holds Try.pinned (OpenSpec.ofChange fnExactAreBoltsSpec)

/-- ITS FALSE NEIGHBOUR: 'it returns false'. Refute it at one input. -/
def fnExactAreBoltsWrong : ChangeSpec := { name := "fnExactAreBolts", fn := fun _ => fun
  | [d] => { results := [.lit (.bool false)], args := [d] }
  | _ => none }
def FnExactAreBoltsWrongFalsely : Prop := fnExactAreBoltsRow.holds Try.pinned (OpenSpec.ofChange fnExactAreBoltsWrong)

/-- 'laws.FnExactAllOn': WHATEVER THE INPUT: true; the input reads as it did. -/
def fnExactAllOnSpec : ChangeSpec := { name := "fnExactAllOn", fn := fun _ => fun
  | [d] => { results := [.lit (.bool true)], args := [d] }
  | _ => none }
def fnExactAllOnRow : OpenClaim := { program := "ytclomifkpciefaa", sum := "eeceaf9e8d984ec9d6c973252f56702c85b02546d72d98d121a80115c3e8dd83", func := "loop.example/g01314/laws.FnExactAllOn", spec := "fnExactAllOn", inPlace := ["internal/abi.NoEscape", "internal/bytealg.MakeNoZero"], apart := false }
def FnExactAllOnSaid : Prop := fnExactAllOnRow.holds Try.pinned (OpenSpec.ofChange fnExactAllOnSpec)

/-- ITS FALSE NEIGHBOUR: 'it returns false'. Refute it at one input. -/
def fnExactAllOnWrong : ChangeSpec := { name := "fnExactAllOn", fn := fun _ => fun
  | [d] => { results := [.lit (.bool false)], args := [d] }
  | _ => none }
def FnExactAllOnWrongFalsely : Prop := fnExactAllOnRow.holds Try.pinned (OpenSpec.ofChange fnExactAllOnWrong)

/-- 'laws.FnExactMovesToClear': WHATEVER THE INPUT: true; the input reads as it did. -/
def fnExactMovesToClearSpec : ChangeSpec := { name := "fnExactMovesToClear", fn := fun _ => fun
  | [d] => { results := [.lit (.bool true)], args := [d] }
  | _ => none }
def fnExactMovesToClearRow : OpenClaim := { program := "ytclomifkpciefaa", sum := "eeceaf9e8d984ec9d6c973252f56702c85b02546d72d98d121a80115c3e8dd83", func := "loop.example/g01314/laws.FnExactMovesToClear", spec := "fnExactMovesToClear", inPlace := ["internal/abi.NoEscape", "internal/bytealg.MakeNoZero"], apart := false }
def FnExactMovesToClearSaid : Prop := fnExactMovesToClearRow.holds Try.pinned (OpenSpec.ofChange fnExactMovesToClearSpec)

/-- ITS FALSE NEIGHBOUR: 'it returns false'. Refute it at one input. -/
def fnExactMovesToClearWrong : ChangeSpec := { name := "fnExactMovesToClear", fn := fun _ => fun
  | [d] => { results := [.lit (.bool false)], args := [d] }
  | _ => none }
def FnExactMovesToClearWrongFalsely : Prop := fnExactMovesToClearRow.holds Try.pinned (OpenSpec.ofChange fnExactMovesToClearWrong)

/-- 'laws.FnExactBoltsText': WHATEVER THE INPUT: true; the input reads as it did. -/
def fnExactBoltsTextSpec : ChangeSpec := { name := "fnExactBoltsText", fn := fun _ => fun
  | [d] => { results := [.lit (.bool true)], args := [d] }
  | _ => none }
def fnExactBoltsTextRow : OpenClaim := { program := "ytclomifkpciefaa", sum := "eeceaf9e8d984ec9d6c973252f56702c85b02546d72d98d121a80115c3e8dd83", func := "loop.example/g01314/laws.FnExactBoltsText", spec := "fnExactBoltsText", unfollowed := true, recurses := true, apart := false }
def FnExactBoltsTextSaid : Prop := fnExactBoltsTextRow.holds Try.pinned (OpenSpec.ofChange fnExactBoltsTextSpec)

/-- ITS FALSE NEIGHBOUR: 'it returns false'. Refute it at one input. -/
def fnExactBoltsTextWrong : ChangeSpec := { name := "fnExactBoltsText", fn := fun _ => fun
  | [d] => { results := [.lit (.bool false)], args := [d] }
  | _ => none }
def FnExactBoltsTextWrongFalsely : Prop := fnExactBoltsTextRow.holds Try.pinned (OpenSpec.ofChange fnExactBoltsTextWrong)

/-- 'laws.FnExactIsAllowed': WHATEVER THE INPUT: true; the input reads as it did. -/
def fnExactIsAllowedSpec : ChangeSpec := { name := "fnExactIsAllowed", fn := fun _ => fun
  | [d1, d2] => { results := [.lit (.bool true)], args := [d1, d2] }
  | _ => none }
def fnExactIsAllowedRow : OpenClaim := { program := "ytclomifkpciefaa", sum := "eeceaf9e8d984ec9d6c973252f56702c85b02546d72d98d121a80115c3e8dd83", func := "loop.example/g01314/laws.FnExactIsAllowed", spec := "fnExactIsAllowed", unfollowed := true, recurses := true, apart := false }
def FnExactIsAllowedSaid : Prop := fnExactIsAllowedRow.holds Try.pinned (OpenSpec.ofChange fnExactIsAllowedSpec)

/-- ITS FALSE NEIGHBOUR: 'it returns false'. Refute it at one input. -/
def fnExactIsAllowedWrong : ChangeSpec := { name := "fnExactIsAllowed", fn := fun _ => fun
  | [d1, d2] => { results := [.lit (.bool false)], args := [d1, d2] }
  | _ => none }
def FnExactIsAllowedWrongFalsely : Prop := fnExactIsAllowedRow.holds Try.pinned (OpenSpec.ofChange fnExactIsAllowedWrong)

/-- 'laws.FnExactBarKeys': WHATEVER THE INPUT: true; the input reads as it did. -/
def fnExactBarKeysSpec : ChangeSpec := { name := "fnExactBarKeys", fn := fun _ => fun
  | [d] => { results := [.lit (.bool true)], args := [d] }
  | _ => none }
def fnExactBarKeysRow : OpenClaim := { program := "ytclomifkpciefaa", sum := "eeceaf9e8d984ec9d6c973252f56702c85b02546d72d98d121a80115c3e8dd83", func := "loop.example/g01314/laws.FnExactBarKeys", spec := "fnExactBarKeys", inPlace := ["internal/abi.NoEscape", "internal/bytealg.MakeNoZero"], apart := false }
def FnExactBarKeysSaid : Prop := fnExactBarKeysRow.holds Try.pinned (OpenSpec.ofChange fnExactBarKeysSpec)

/-- ITS FALSE NEIGHBOUR: 'it returns false'. Refute it at one input. -/
def fnExactBarKeysWrong : ChangeSpec := { name := "fnExactBarKeys", fn := fun _ => fun
  | [d] => { results := [.lit (.bool false)], args := [d] }
  | _ => none }
def FnExactBarKeysWrongFalsely : Prop := fnExactBarKeysRow.holds Try.pinned (OpenSpec.ofChange fnExactBarKeysWrong)

/-- 'laws.FnExactFreeKeys': WHATEVER THE INPUT: true; the input reads as it did. -/
def fnExactFreeKeysSpec : ChangeSpec := { name := "fnExactFreeKeys", fn := fun _ => fun
  | [d] => { results := [.lit (.bool true)], args := [d] }
  | _ => none }
def fnExactFreeKeysRow : OpenClaim := { program := "ytclomifkpciefaa", sum := "eeceaf9e8d984ec9d6c973252f56702c85b02546d72d98d121a80115c3e8dd83", func := "loop.example/g01314/laws.FnExactFreeKeys", spec := "fnExactFreeKeys", inPlace := ["internal/abi.NoEscape", "internal/bytealg.MakeNoZero"], apart := false }
def FnExactFreeKeysSaid : Prop := fnExactFreeKeysRow.holds Try.pinned (OpenSpec.ofChange fnExactFreeKeysSpec)

/-- ITS FALSE NEIGHBOUR: 'it returns false'. Refute it at one input. -/
def fnExactFreeKeysWrong : ChangeSpec := { name := "fnExactFreeKeys", fn := fun _ => fun
  | [d] => { results := [.lit (.bool false)], args := [d] }
  | _ => none }
def FnExactFreeKeysWrongFalsely : Prop := fnExactFreeKeysRow.holds Try.pinned (OpenSpec.ofChange fnExactFreeKeysWrong)

/-- 'laws.FnExactCountAllowed': WHATEVER THE INPUT: true; the input reads as it did. -/
def fnExactCountAllowedSpec : ChangeSpec := { name := "fnExactCountAllowed", fn := fun _ => fun
  | [d] => { results := [.lit (.bool true)], args := [d] }
  | _ => none }
def fnExactCountAllowedRow : OpenClaim := { program := "ytclomifkpciefaa", sum := "eeceaf9e8d984ec9d6c973252f56702c85b02546d72d98d121a80115c3e8dd83", func := "loop.example/g01314/laws.FnExactCountAllowed", spec := "fnExactCountAllowed", unfollowed := true, recurses := true, apart := false }
def FnExactCountAllowedSaid : Prop := fnExactCountAllowedRow.holds Try.pinned (OpenSpec.ofChange fnExactCountAllowedSpec)

/-- ITS FALSE NEIGHBOUR: 'it returns false'. Refute it at one input. -/
def fnExactCountAllowedWrong : ChangeSpec := { name := "fnExactCountAllowed", fn := fun _ => fun
  | [d] => { results := [.lit (.bool false)], args := [d] }
  | _ => none }
def FnExactCountAllowedWrongFalsely : Prop := fnExactCountAllowedRow.holds Try.pinned (OpenSpec.ofChange fnExactCountAllowedWrong)

/-- 'laws.FnExactAllowedStates': WHATEVER THE INPUT: true; the input reads as it did. -/
def fnExactAllowedStatesSpec : ChangeSpec := { name := "fnExactAllowedStates", fn := fun _ => fun
  | [d] => { results := [.lit (.bool true)], args := [d] }
  | _ => none }
def fnExactAllowedStatesRow : OpenClaim := { program := "ytclomifkpciefaa", sum := "eeceaf9e8d984ec9d6c973252f56702c85b02546d72d98d121a80115c3e8dd83", func := "loop.example/g01314/laws.FnExactAllowedStates", spec := "fnExactAllowedStates", unfollowed := true, recurses := true, apart := false }
def FnExactAllowedStatesSaid : Prop := fnExactAllowedStatesRow.holds Try.pinned (OpenSpec.ofChange fnExactAllowedStatesSpec)

/-- ITS FALSE NEIGHBOUR: 'it returns false'. Refute it at one input. -/
def fnExactAllowedStatesWrong : ChangeSpec := { name := "fnExactAllowedStates", fn := fun _ => fun
  | [d] => { results := [.lit (.bool false)], args := [d] }
  | _ => none }
def FnExactAllowedStatesWrongFalsely : Prop := fnExactAllowedStatesRow.holds Try.pinned (OpenSpec.ofChange fnExactAllowedStatesWrong)

/- THE SECOND FORM. 'bulk': how many values and letters a reading holds, each counted each time it is reached (what is shared counts as often as it is met; a slice's spare places count too). A statement '..UptoSaid' is the law's where the arguments, and the package variables that the reading takes, are together of bulk at most 1048576: NARROWER than '..Said'. Prove '..Said' where nothing that the law and all that it calls make is longer than what came in: it says more and counts as full. Else prove '..UptoSaid'. A law counts once. -/
mutual
def uptoBulk {H : Type} : DataW H → Nat
  | .lit (.string bytes) => bytes.length + 1
  | .lit _ => 1
  | .nil => 1
  | .ptr d => uptoBulk d + 1
  | .slice elems spare => uptoBulkAll elems + uptoBulkAll spare + 1
  | .agg parts => uptoBulkAll parts + 1
  | .iface _ d => uptoBulk d + 1
  | .map entries => uptoBulkEntries entries + 1
  | .held _ => 1
def uptoBulkAll {H : Type} : List (DataW H) → Nat
  | [] => 0
  | d :: r => uptoBulk d + uptoBulkAll r
def uptoBulkEntries {H : Type} : List (Lit × DataW H) → Nat
  | [] => 0
  | x :: r => uptoBulkEntry x + uptoBulkEntries r
def uptoBulkEntry {H : Type} : Lit × DataW H → Nat
  | (.string bytes, d) => bytes.length + uptoBulk d + 1
  | (_, d) => uptoBulk d + 1
 end
def uptoSmall : (H : Type) → List (DataW H) → Bool := fun _ ds => decide (uptoBulkAll ds ≤ 1048576)
def OpenSpec.upto (s : _root_.Go.ChangeSpec) : _root_.Go.OpenSpec := { _root_.Go.OpenSpec.ofChange s with cond := some uptoSmall }

/-- 'laws.FnExactParseMoves', WHERE WHAT IT READS IS OF BULK AT MOST 1048576: true; the input reads as it did. -/
def fnExactParseMovesUptoRow : OpenClaim := { program := "ytclomifkpciefaa", sum := "eeceaf9e8d984ec9d6c973252f56702c85b02546d72d98d121a80115c3e8dd83", func := "loop.example/g01314/laws.FnExactParseMoves", spec := "fnExactParseMoves", apart := false, narrowed := true }
def FnExactParseMovesUptoSaid : Prop := fnExactParseMovesUptoRow.holds Try.pinned (OpenSpec.upto fnExactParseMovesSpec)

/-- 'laws.FnExactMovesText', WHERE WHAT IT READS IS OF BULK AT MOST 1048576: true; the input reads as it did. -/
def fnExactMovesTextUptoRow : OpenClaim := { program := "ytclomifkpciefaa", sum := "eeceaf9e8d984ec9d6c973252f56702c85b02546d72d98d121a80115c3e8dd83", func := "loop.example/g01314/laws.FnExactMovesText", spec := "fnExactMovesText", unfollowed := true, recurses := true, apart := false, narrowed := true }
def FnExactMovesTextUptoSaid : Prop := fnExactMovesTextUptoRow.holds Try.pinned (OpenSpec.upto fnExactMovesTextSpec)

/-- 'laws.FnExactBarBolts', WHERE WHAT IT READS IS OF BULK AT MOST 1048576: true; the input reads as it did. -/
def fnExactBarBoltsUptoRow : OpenClaim := { program := "ytclomifkpciefaa", sum := "eeceaf9e8d984ec9d6c973252f56702c85b02546d72d98d121a80115c3e8dd83", func := "loop.example/g01314/laws.FnExactBarBolts", spec := "fnExactBarBolts", apart := false, narrowed := true }
def FnExactBarBoltsUptoSaid : Prop := fnExactBarBoltsUptoRow.holds Try.pinned (OpenSpec.upto fnExactBarBoltsSpec)

/-- 'laws.FnExactAreBolts', WHERE WHAT IT READS IS OF BULK AT MOST 1048576: true; the input reads as it did. -/
def fnExactAreBoltsUptoRow : OpenClaim := { program := "ytclomifkpciefaa", sum := "eeceaf9e8d984ec9d6c973252f56702c85b02546d72d98d121a80115c3e8dd83", func := "loop.example/g01314/laws.FnExactAreBolts", spec := "fnExactAreBolts", unfollowed := true, recurses := true, apart := false, narrowed := true }
def FnExactAreBoltsUptoSaid : Prop := fnExactAreBoltsUptoRow.holds Try.pinned (OpenSpec.upto fnExactAreBoltsSpec)

/-- 'laws.FnExactAllOn', WHERE WHAT IT READS IS OF BULK AT MOST 1048576: true; the input reads as it did. -/
def fnExactAllOnUptoRow : OpenClaim := { program := "ytclomifkpciefaa", sum := "eeceaf9e8d984ec9d6c973252f56702c85b02546d72d98d121a80115c3e8dd83", func := "loop.example/g01314/laws.FnExactAllOn", spec := "fnExactAllOn", inPlace := ["internal/abi.NoEscape", "internal/bytealg.MakeNoZero"], apart := false, narrowed := true }
def FnExactAllOnUptoSaid : Prop := fnExactAllOnUptoRow.holds Try.pinned (OpenSpec.upto fnExactAllOnSpec)

/-- 'laws.FnExactMovesToClear', WHERE WHAT IT READS IS OF BULK AT MOST 1048576: true; the input reads as it did. -/
def fnExactMovesToClearUptoRow : OpenClaim := { program := "ytclomifkpciefaa", sum := "eeceaf9e8d984ec9d6c973252f56702c85b02546d72d98d121a80115c3e8dd83", func := "loop.example/g01314/laws.FnExactMovesToClear", spec := "fnExactMovesToClear", inPlace := ["internal/abi.NoEscape", "internal/bytealg.MakeNoZero"], apart := false, narrowed := true }
def FnExactMovesToClearUptoSaid : Prop := fnExactMovesToClearUptoRow.holds Try.pinned (OpenSpec.upto fnExactMovesToClearSpec)

/-- 'laws.FnExactBoltsText', WHERE WHAT IT READS IS OF BULK AT MOST 1048576: true; the input reads as it did. -/
def fnExactBoltsTextUptoRow : OpenClaim := { program := "ytclomifkpciefaa", sum := "eeceaf9e8d984ec9d6c973252f56702c85b02546d72d98d121a80115c3e8dd83", func := "loop.example/g01314/laws.FnExactBoltsText", spec := "fnExactBoltsText", unfollowed := true, recurses := true, apart := false, narrowed := true }
def FnExactBoltsTextUptoSaid : Prop := fnExactBoltsTextUptoRow.holds Try.pinned (OpenSpec.upto fnExactBoltsTextSpec)

/-- 'laws.FnExactIsAllowed', WHERE WHAT IT READS IS OF BULK AT MOST 1048576: true; the input reads as it did. -/
def fnExactIsAllowedUptoRow : OpenClaim := { program := "ytclomifkpciefaa", sum := "eeceaf9e8d984ec9d6c973252f56702c85b02546d72d98d121a80115c3e8dd83", func := "loop.example/g01314/laws.FnExactIsAllowed", spec := "fnExactIsAllowed", unfollowed := true, recurses := true, apart := false, narrowed := true }
def FnExactIsAllowedUptoSaid : Prop := fnExactIsAllowedUptoRow.holds Try.pinned (OpenSpec.upto fnExactIsAllowedSpec)

/-- 'laws.FnExactBarKeys', WHERE WHAT IT READS IS OF BULK AT MOST 1048576: true; the input reads as it did. -/
def fnExactBarKeysUptoRow : OpenClaim := { program := "ytclomifkpciefaa", sum := "eeceaf9e8d984ec9d6c973252f56702c85b02546d72d98d121a80115c3e8dd83", func := "loop.example/g01314/laws.FnExactBarKeys", spec := "fnExactBarKeys", inPlace := ["internal/abi.NoEscape", "internal/bytealg.MakeNoZero"], apart := false, narrowed := true }
def FnExactBarKeysUptoSaid : Prop := fnExactBarKeysUptoRow.holds Try.pinned (OpenSpec.upto fnExactBarKeysSpec)

/-- 'laws.FnExactFreeKeys', WHERE WHAT IT READS IS OF BULK AT MOST 1048576: true; the input reads as it did. -/
def fnExactFreeKeysUptoRow : OpenClaim := { program := "ytclomifkpciefaa", sum := "eeceaf9e8d984ec9d6c973252f56702c85b02546d72d98d121a80115c3e8dd83", func := "loop.example/g01314/laws.FnExactFreeKeys", spec := "fnExactFreeKeys", inPlace := ["internal/abi.NoEscape", "internal/bytealg.MakeNoZero"], apart := false, narrowed := true }
def FnExactFreeKeysUptoSaid : Prop := fnExactFreeKeysUptoRow.holds Try.pinned (OpenSpec.upto fnExactFreeKeysSpec)

/-- 'laws.FnExactCountAllowed', WHERE WHAT IT READS IS OF BULK AT MOST 1048576: true; the input reads as it did. -/
def fnExactCountAllowedUptoRow : OpenClaim := { program := "ytclomifkpciefaa", sum := "eeceaf9e8d984ec9d6c973252f56702c85b02546d72d98d121a80115c3e8dd83", func := "loop.example/g01314/laws.FnExactCountAllowed", spec := "fnExactCountAllowed", unfollowed := true, recurses := true, apart := false, narrowed := true }
def FnExactCountAllowedUptoSaid : Prop := fnExactCountAllowedUptoRow.holds Try.pinned (OpenSpec.upto fnExactCountAllowedSpec)

/-- 'laws.FnExactAllowedStates', WHERE WHAT IT READS IS OF BULK AT MOST 1048576: true; the input reads as it did. -/
def fnExactAllowedStatesUptoRow : OpenClaim := { program := "ytclomifkpciefaa", sum := "eeceaf9e8d984ec9d6c973252f56702c85b02546d72d98d121a80115c3e8dd83", func := "loop.example/g01314/laws.FnExactAllowedStates", spec := "fnExactAllowedStates", unfollowed := true, recurses := true, apart := false, narrowed := true }
def FnExactAllowedStatesUptoSaid : Prop := fnExactAllowedStatesUptoRow.holds Try.pinned (OpenSpec.upto fnExactAllowedStatesSpec)

end Rows
end Go.Proofs.Ytclomifkpciefaa
