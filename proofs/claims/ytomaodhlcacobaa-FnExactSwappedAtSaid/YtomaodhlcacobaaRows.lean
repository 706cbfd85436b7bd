/-
  No cell of these rows narrows 'for every input' (looked for: loops, veiled, ifaces, maps, wideKeys, modest, calm, conditions, laid).
  DERIVED. THE GIVEN ROWS OF THIS SEAT. 12 by the template 'for every input the law returns true; each argument reads behind the call as it read before'; 0 by the template 'total and deterministic' (their statements: YtomaodhlcacobaaTotals.lean).
  GIVEN WITH THE SEED: the statements are not yours to turn. If you find one false, say at which input.
  Laid BY PROGRAM, IN A SANDBOX (cutbox-rows.mjs): the forced cells as the released guide's own fill.sh prints them over the translation d1d26d35b5554385… (all of the seat's roots in one cut). By AI agents, Wed Nov 11 2026. No macro, syntax, notation, axiom, sorry.
-/
import Derived.Test.YtomaodhlcacobaaChecked
import GoSem.Claim
import GoSem.ClaimJoined
import GoSem.ClaimMapViews
import Derived.JoinedTies
import Derived.KernelRfl
namespace Go.Proofs.Ytomaodhlcacobaa
/- THE CELL 'sum', in the pinned program and in every row, IS THE sha256 OF THE DUMP (.gsa) THAT YtomaodhlcacobaaProg.lean LOADS. Nothing in Lean hashes anything: it is a label: what it is worth is what the hold of that sum in a sandbox is worth. -/
noncomputable def Try.pinned : Pinned := { name := "ytomaodhlcacobaa", sum := "d1d26d35b5554385e35b6735c7b5b299611980b5e14cd53157ad8a35242474f3", checked := Try.checked }
namespace Rows
def none {H : Type} : Left H := { results := [], args := [] }

/-- 'laws.FnExactOtherEnd': WHATEVER THE INPUT: true; the input reads as it did. -/
def fnExactOtherEndSpec : ChangeSpec := { name := "fnExactOtherEnd", fn := fun _ => fun
  | [d] => { results := [.lit (.bool true)], args := [d] }
  | _ => none }
def fnExactOtherEndRow : OpenClaim := { program := "ytomaodhlcacobaa", sum := "d1d26d35b5554385e35b6735c7b5b299611980b5e14cd53157ad8a35242474f3", func := "loop.example/g01314/laws.FnExactOtherEnd", spec := "fnExactOtherEnd", apart := false }
def FnExactOtherEndSaid : Prop := fnExactOtherEndRow.holds Try.pinned (OpenSpec.ofChange fnExactOtherEndSpec)

/-- ITS FALSE NEIGHBOUR: 'it returns false'. Refute it at one input. -/
def fnExactOtherEndWrong : ChangeSpec := { name := "fnExactOtherEnd", fn := fun _ => fun
  | [d] => { results := [.lit (.bool false)], args := [d] }
  | _ => none }
def FnExactOtherEndWrongFalsely : Prop := fnExactOtherEndRow.holds Try.pinned (OpenSpec.ofChange fnExactOtherEndWrong)

/-- 'laws.FnExactStateOfNumber': WHATEVER THE INPUT: true; the input reads as it did. -/
def fnExactStateOfNumberSpec : ChangeSpec := { name := "fnExactStateOfNumber", fn := fun _ => fun
  | [d1, d2] => { results := [.lit (.bool true)], args := [d1, d2] }
  | _ => none }
def fnExactStateOfNumberRow : OpenClaim := { program := "ytomaodhlcacobaa", sum := "d1d26d35b5554385e35b6735c7b5b299611980b5e14cd53157ad8a35242474f3", func := "loop.example/g01314/laws.FnExactStateOfNumber", spec := "fnExactStateOfNumber", apart := false }
def FnExactStateOfNumberSaid : Prop := fnExactStateOfNumberRow.holds Try.pinned (OpenSpec.ofChange fnExactStateOfNumberSpec)

/-- ITS FALSE NEIGHBOUR: 'it returns false'. Refute it at one input. -/
def fnExactStateOfNumberWrong : ChangeSpec := { name := "fnExactStateOfNumber", fn := fun _ => fun
  | [d1, d2] => { results := [.lit (.bool false)], args := [d1, d2] }
  | _ => none }
def FnExactStateOfNumberWrongFalsely : Prop := fnExactStateOfNumberRow.holds Try.pinned (OpenSpec.ofChange fnExactStateOfNumberWrong)

/-- 'laws.FnExactReflectedText': WHATEVER THE INPUT: true; the input reads as it did. -/
def fnExactReflectedTextSpec : ChangeSpec := { name := "fnExactReflectedText", fn := fun _ => fun
  | [d1, d2] => { results := [.lit (.bool true)], args := [d1, d2] }
  | _ => none }
def fnExactReflectedTextRow : OpenClaim := { program := "ytomaodhlcacobaa", sum := "d1d26d35b5554385e35b6735c7b5b299611980b5e14cd53157ad8a35242474f3", func := "loop.example/g01314/laws.FnExactReflectedText", spec := "fnExactReflectedText", recurses := true, apart := false }
def FnExactReflectedTextSaid : Prop := fnExactReflectedTextRow.holds Try.pinned (OpenSpec.ofChange fnExactReflectedTextSpec)

/-- ITS FALSE NEIGHBOUR: 'it returns false'. Refute it at one input. -/
def fnExactReflectedTextWrong : ChangeSpec := { name := "fnExactReflectedText", fn := fun _ => fun
  | [d1, d2] => { results := [.lit (.bool false)], args := [d1, d2] }
  | _ => none }
def FnExactReflectedTextWrongFalsely : Prop := fnExactReflectedTextRow.holds Try.pinned (OpenSpec.ofChange fnExactReflectedTextWrong)

/-- 'laws.FnExactSetAt': WHATEVER THE INPUT: true; the input reads as it did. -/
def fnExactSetAtSpec : ChangeSpec := { name := "fnExactSetAt", fn := fun _ => fun
  | [d1, d2] => { results := [.lit (.bool true)], args := [d1, d2] }
  | _ => none }
def fnExactSetAtRow : OpenClaim := { program := "ytomaodhlcacobaa", sum := "d1d26d35b5554385e35b6735c7b5b299611980b5e14cd53157ad8a35242474f3", func := "loop.example/g01314/laws.FnExactSetAt", spec := "fnExactSetAt", apart := false }
def FnExactSetAtSaid : Prop := fnExactSetAtRow.holds Try.pinned (OpenSpec.ofChange fnExactSetAtSpec)

/-- ITS FALSE NEIGHBOUR: 'it returns false'. Refute it at one input. -/
def fnExactSetAtWrong : ChangeSpec := { name := "fnExactSetAt", fn := fun _ => fun
  | [d1, d2] => { results := [.lit (.bool false)], args := [d1, d2] }
  | _ => none }
def FnExactSetAtWrongFalsely : Prop := fnExactSetAtRow.holds Try.pinned (OpenSpec.ofChange fnExactSetAtWrong)

/-- 'laws.FnExactRankOfSet': WHATEVER THE INPUT: true; the input reads as it did. -/
def fnExactRankOfSetSpec : ChangeSpec := { name := "fnExactRankOfSet", fn := fun _ => fun
  | [d1, d2] => { results := [.lit (.bool true)], args := [d1, d2] }
  | _ => none }
def fnExactRankOfSetRow : OpenClaim := { program := "ytomaodhlcacobaa", sum := "d1d26d35b5554385e35b6735c7b5b299611980b5e14cd53157ad8a35242474f3", func := "loop.example/g01314/laws.FnExactRankOfSet", spec := "fnExactRankOfSet", apart := false }
def FnExactRankOfSetSaid : Prop := fnExactRankOfSetRow.holds Try.pinned (OpenSpec.ofChange fnExactRankOfSetSpec)

/-- ITS FALSE NEIGHBOUR: 'it returns false'. Refute it at one input. -/
def fnExactRankOfSetWrong : ChangeSpec := { name := "fnExactRankOfSet", fn := fun _ => fun
  | [d1, d2] => { results := [.lit (.bool false)], args := [d1, d2] }
  | _ => none }
def FnExactRankOfSetWrongFalsely : Prop := fnExactRankOfSetRow.holds Try.pinned (OpenSpec.ofChange fnExactRankOfSetWrong)

/-- 'laws.FnExactRankOfMixed': WHATEVER THE INPUT: true; the input reads as it did. -/
def fnExactRankOfMixedSpec : ChangeSpec := { name := "fnExactRankOfMixed", fn := fun _ => fun
  | [d1, d2] => { results := [.lit (.bool true)], args := [d1, d2] }
  | _ => none }
def fnExactRankOfMixedRow : OpenClaim := { program := "ytomaodhlcacobaa", sum := "d1d26d35b5554385e35b6735c7b5b299611980b5e14cd53157ad8a35242474f3", func := "loop.example/g01314/laws.FnExactRankOfMixed", spec := "fnExactRankOfMixed", unfollowed := true, recurses := true, apart := false }
def FnExactRankOfMixedSaid : Prop := fnExactRankOfMixedRow.holds Try.pinned (OpenSpec.ofChange fnExactRankOfMixedSpec)

/-- ITS FALSE NEIGHBOUR: 'it returns false'. Refute it at one input. -/
def fnExactRankOfMixedWrong : ChangeSpec := { name := "fnExactRankOfMixed", fn := fun _ => fun
  | [d1, d2] => { results := [.lit (.bool false)], args := [d1, d2] }
  | _ => none }
def FnExactRankOfMixedWrongFalsely : Prop := fnExactRankOfMixedRow.holds Try.pinned (OpenSpec.ofChange fnExactRankOfMixedWrong)

/-- 'laws.FnExactRankOfChoice': WHATEVER THE INPUT: true; the input reads as it did. -/
def fnExactRankOfChoiceSpec : ChangeSpec := { name := "fnExactRankOfChoice", fn := fun _ => fun
  | [d1, d2] => { results := [.lit (.bool true)], args := [d1, d2] }
  | _ => none }
def fnExactRankOfChoiceRow : OpenClaim := { program := "ytomaodhlcacobaa", sum := "d1d26d35b5554385e35b6735c7b5b299611980b5e14cd53157ad8a35242474f3", func := "loop.example/g01314/laws.FnExactRankOfChoice", spec := "fnExactRankOfChoice", recurses := true, apart := false }
def FnExactRankOfChoiceSaid : Prop := fnExactRankOfChoiceRow.holds Try.pinned (OpenSpec.ofChange fnExactRankOfChoiceSpec)

/-- ITS FALSE NEIGHBOUR: 'it returns false'. Refute it at one input. -/
def fnExactRankOfChoiceWrong : ChangeSpec := { name := "fnExactRankOfChoice", fn := fun _ => fun
  | [d1, d2] => { results := [.lit (.bool false)], args := [d1, d2] }
  | _ => none }
def FnExactRankOfChoiceWrongFalsely : Prop := fnExactRankOfChoiceRow.holds Try.pinned (OpenSpec.ofChange fnExactRankOfChoiceWrong)

/-- 'laws.FnExactChoiceAt': WHATEVER THE INPUT: true; the input reads as it did. -/
def fnExactChoiceAtSpec : ChangeSpec := { name := "fnExactChoiceAt", fn := fun _ => fun
  | [d1, d2, d3] => { results := [.lit (.bool true)], args := [d1, d2, d3] }
  | _ => none }
def fnExactChoiceAtRow : OpenClaim := { program := "ytomaodhlcacobaa", sum := "d1d26d35b5554385e35b6735c7b5b299611980b5e14cd53157ad8a35242474f3", func := "loop.example/g01314/laws.FnExactChoiceAt", spec := "fnExactChoiceAt", recurses := true, apart := false }
def FnExactChoiceAtSaid : Prop := fnExactChoiceAtRow.holds Try.pinned (OpenSpec.ofChange fnExactChoiceAtSpec)

/-- ITS FALSE NEIGHBOUR: 'it returns false'. Refute it at one input. -/
def fnExactChoiceAtWrong : ChangeSpec := { name := "fnExactChoiceAt", fn := fun _ => fun
  | [d1, d2, d3] => { results := [.lit (.bool false)], args := [d1, d2, d3] }
  | _ => none }
def FnExactChoiceAtWrongFalsely : Prop := fnExactChoiceAtRow.holds Try.pinned (OpenSpec.ofChange fnExactChoiceAtWrong)

/-- 'laws.FnExactMixedAt': WHATEVER THE INPUT: true; the input reads as it did. -/
def fnExactMixedAtSpec : ChangeSpec := { name := "fnExactMixedAt", fn := fun _ => fun
  | [d1, d2] => { results := [.lit (.bool true)], args := [d1, d2] }
  | _ => none }
def fnExactMixedAtRow : OpenClaim := { program := "ytomaodhlcacobaa", sum := "d1d26d35b5554385e35b6735c7b5b299611980b5e14cd53157ad8a35242474f3", func := "loop.example/g01314/laws.FnExactMixedAt", spec := "fnExactMixedAt", unfollowed := true, recurses := true, apart := false }
def FnExactMixedAtSaid : Prop := fnExactMixedAtRow.holds Try.pinned (OpenSpec.ofChange fnExactMixedAtSpec)

/-- ITS FALSE NEIGHBOUR: 'it returns false'. Refute it at one input. -/
def fnExactMixedAtWrong : ChangeSpec := { name := "fnExactMixedAt", fn := fun _ => fun
  | [d1, d2] => { results := [.lit (.bool false)], args := [d1, d2] }
  | _ => none }
def FnExactMixedAtWrongFalsely : Prop := fnExactMixedAtRow.holds Try.pinned (OpenSpec.ofChange fnExactMixedAtWrong)

/-- 'laws.FnExactRankOfSwapped': WHATEVER THE INPUT: true; the input reads as it did. -/
def fnExactRankOfSwappedSpec : ChangeSpec := { name := "fnExactRankOfSwapped", fn := fun _ => fun
  | [d] => { results := [.lit (.bool true)], args := [d] }
  | _ => none }
def fnExactRankOfSwappedRow : OpenClaim := { program := "ytomaodhlcacobaa", sum := "d1d26d35b5554385e35b6735c7b5b299611980b5e14cd53157ad8a35242474f3", func := "loop.example/g01314/laws.FnExactRankOfSwapped", spec := "fnExactRankOfSwapped", recurses := true, apart := false }
def FnExactRankOfSwappedSaid : Prop := fnExactRankOfSwappedRow.holds Try.pinned (OpenSpec.ofChange fnExactRankOfSwappedSpec)

/-- ITS FALSE NEIGHBOUR: 'it returns false'. Refute it at one input. -/
def fnExactRankOfSwappedWrong : ChangeSpec := { name := "fnExactRankOfSwapped", fn := fun _ => fun
  | [d] => { results := [.lit (.bool false)], args := [d] }
  | _ => none }
def FnExactRankOfSwappedWrongFalsely : Prop := fnExactRankOfSwappedRow.holds Try.pinned (OpenSpec.ofChange fnExactRankOfSwappedWrong)

/-- 'laws.FnExactSwapPlace': WHATEVER THE INPUT: true; the input reads as it did. -/
def fnExactSwapPlaceSpec : ChangeSpec := { name := "fnExactSwapPlace", fn := fun _ => fun
  | [d1, d2] => { results := [.lit (.bool true)], args := [d1, d2] }
  | _ => none }
def fnExactSwapPlaceRow : OpenClaim := { program := "ytomaodhlcacobaa", sum := "d1d26d35b5554385e35b6735c7b5b299611980b5e14cd53157ad8a35242474f3", func := "loop.example/g01314/laws.FnExactSwapPlace", spec := "fnExactSwapPlace", inPlace := ["slices.overlaps[int]"], recurses := true, apart := false }
def FnExactSwapPlaceSaid : Prop := fnExactSwapPlaceRow.holds Try.pinned (OpenSpec.ofChange fnExactSwapPlaceSpec)

/-- ITS FALSE NEIGHBOUR: 'it returns false'. Refute it at one input. -/
def fnExactSwapPlaceWrong : ChangeSpec := { name := "fnExactSwapPlace", fn := fun _ => fun
  | [d1, d2] => { results := [.lit (.bool false)], args := [d1, d2] }
  | _ => none }
def FnExactSwapPlaceWrongFalsely : Prop := fnExactSwapPlaceRow.holds Try.pinned (OpenSpec.ofChange fnExactSwapPlaceWrong)

/-- 'laws.FnExactSwappedAt': WHATEVER THE INPUT: true; the input reads as it did. -/
def fnExactSwappedAtSpec : ChangeSpec := { name := "fnExactSwappedAt", fn := fun _ => fun
  | [d1, d2] => { results := [.lit (.bool true)], args := [d1, d2] }
  | _ => none }
def fnExactSwappedAtRow : OpenClaim := { program := "ytomaodhlcacobaa", sum := "d1d26d35b5554385e35b6735c7b5b299611980b5e14cd53157ad8a35242474f3", func := "loop.example/g01314/laws.FnExactSwappedAt", spec := "fnExactSwappedAt", inPlace := ["slices.overlaps[int]"], recurses := true, apart := false }
def FnExactSwappedAtSaid : Prop := fnExactSwappedAtRow.holds Try.pinned (OpenSpec.ofChange fnExactSwappedAtSpec)

/-- ITS FALSE NEIGHBOUR: 'it returns false'. Refute it at one input. -/
def fnExactSwappedAtWrong : ChangeSpec := { name := "fnExactSwappedAt", fn := fun _ => fun
  | [d1, d2] => { results := [.lit (.bool false)], args := [d1, d2] }
  | _ => none }
def FnExactSwappedAtWrongFalsely : Prop := fnExactSwappedAtRow.holds Try.pinned (OpenSpec.ofChange fnExactSwappedAtWrong)

/- THE SECOND FORM. 'bulk': how many values and letters a reading holds, each counted each time it is reached (what is shared counts as often as it is met; a slice's spare places count too). A statement '..UptoSaid' is the law's where the arguments, and the package variables that the reading takes, are together of bulk at most 1048576: NARROWER than '..Said'. Prove '..Said' where nothing that the law and all that it calls make is longer than what came in: it says more and counts as full. Else prove '..UptoSaid'. A law counts once. -/
mutual
def uptoBulk {H : Type} : DataW H → Nat
  | .lit (.string bytes) => bytes.length + 1
  | .lit _ => 1
  | .nil => 1
  | .ptr d => uptoBulk d + 1
  | .slice elems spare => uptoBulkAll elems + uptoBulkAll spare + 1
  | .agg parts => uptoBulkAll parts + 1
  | .iface _ d => uptoBulk d + 1
  | .map entries => uptoBulkEntries entries + 1
  | .held _ => 1
def uptoBulkAll {H : Type} : List (DataW H) → Nat
  | [] => 0
  | d :: r => uptoBulk d + uptoBulkAll r
def uptoBulkEntries {H : Type} : List (Lit × DataW H) → Nat
  | [] => 0
  | x :: r => uptoBulkEntry x + uptoBulkEntries r
def uptoBulkEntry {H : Type} : Lit × DataW H → Nat
  | (.string bytes, d) => bytes.length + uptoBulk d + 1
  | (_, d) => uptoBulk d + 1
 end
def uptoSmall : (H : Type) → List (DataW H) → Bool := fun _ ds => decide (uptoBulkAll ds ≤ 1048576)
def OpenSpec.upto (s : _root_.Go.ChangeSpec) : _root_.Go.OpenSpec := { _root_.Go.OpenSpec.ofChange s with cond := some uptoSmall }

/-- 'laws.FnExactOtherEnd', WHERE WHAT IT READS IS OF BULK AT MOST 1048576: true; the input reads as it did. -/
def fnExactOtherEndUptoRow : OpenClaim := { program := "ytomaodhlcacobaa", sum := "d1d26d35b5554385e35b6735c7b5b299611980b5e14cd53157ad8a35242474f3", func := "loop.example/g01314/laws.FnExactOtherEnd", spec := "fnExactOtherEnd", apart := false, narrowed := true }
def FnExactOtherEndUptoSaid : Prop := fnExactOtherEndUptoRow.holds Try.pinned (OpenSpec.upto fnExactOtherEndSpec)

/-- 'laws.FnExactStateOfNumber', WHERE WHAT IT READS IS OF BULK AT MOST 1048576: true; the input reads as it did. -/
def fnExactStateOfNumberUptoRow : OpenClaim := { program := "ytomaodhlcacobaa", sum := "d1d26d35b5554385e35b6735c7b5b299611980b5e14cd53157ad8a35242474f3", func := "loop.example/g01314/laws.FnExactStateOfNumber", spec := "fnExactStateOfNumber", apart := false, narrowed := true }
def FnExactStateOfNumberUptoSaid : Prop := fnExactStateOfNumberUptoRow.holds Try.pinned (OpenSpec.upto fnExactStateOfNumberSpec)

/-- 'laws.FnExactReflectedText', WHERE WHAT IT READS IS OF BULK AT MOST 1048576: true; the input reads as it did. -/
def fnExactReflectedTextUptoRow : OpenClaim := { program := "ytomaodhlcacobaa", sum := "d1d26d35b5554385e35b6735c7b5b299611980b5e14cd53157ad8a35242474f3", func := "loop.example/g01314/laws.FnExactReflectedText", spec := "fnExactReflectedText", recurses := true, apart := false, narrowed := true }
def FnExactReflectedTextUptoSaid : Prop := fnExactReflectedTextUptoRow.holds Try.pinned (OpenSpec.upto fnExactReflectedTextSpec)

/-- 'laws.FnExactSetAt', WHERE WHAT IT READS IS OF BULK AT MOST 1048576: true; the input reads as it did. -/
def fnExactSetAtUptoRow : OpenClaim := { program := "ytomaodhlcacobaa", sum := "d1d26d35b5554385e35b6735c7b5b299611980b5e14cd53157ad8a35242474f3", func := "loop.example/g01314/laws.FnExactSetAt", spec := "fnExactSetAt", apart := false, narrowed := true }
def FnExactSetAtUptoSaid : Prop := fnExactSetAtUptoRow.holds Try.pinned (OpenSpec.upto fnExactSetAtSpec)

/-- 'laws.FnExactRankOfSet', WHERE WHAT IT READS IS OF BULK AT MOST 1048576: true; the input reads as it did. -/
def fnExactRankOfSetUptoRow : OpenClaim := { program := "ytomaodhlcacobaa", sum := "d1d26d35b5554385e35b6735c7b5b299611980b5e14cd53157ad8a35242474f3", func := "loop.example/g01314/laws.FnExactRankOfSet", spec := "fnExactRankOfSet", apart := false, narrowed := true }
def FnExactRankOfSetUptoSaid : Prop := fnExactRankOfSetUptoRow.holds Try.pinned (OpenSpec.upto fnExactRankOfSetSpec)

/-- 'laws.FnExactRankOfMixed', WHERE WHAT IT READS IS OF BULK AT MOST 1048576: true; the input reads as it did. -/
def fnExactRankOfMixedUptoRow : OpenClaim := { program := "ytomaodhlcacobaa", sum := "d1d26d35b5554385e35b6735c7b5b299611980b5e14cd53157ad8a35242474f3", func := "loop.example/g01314/laws.FnExactRankOfMixed", spec := "fnExactRankOfMixed", unfollowed := true, recurses := true, apart := false, narrowed := true }
def FnExactRankOfMixedUptoSaid : Prop := fnExactRankOfMixedUptoRow.holds Try.pinned (OpenSpec.upto fnExactRankOfMixedSpec)

/-- 'laws.FnExactRankOfChoice', WHERE WHAT IT READS IS OF BULK AT MOST 1048576: true; the input reads as it did. -/
def fnExactRankOfChoiceUptoRow : OpenClaim := { program := "ytomaodhlcacobaa", sum := "d1d26d35b5554385e35b6735c7b5b299611980b5e14cd53157ad8a35242474f3", func := "loop.example/g01314/laws.FnExactRankOfChoice", spec := "fnExactRankOfChoice", recurses := true, apart := false, narrowed := true }
def FnExactRankOfChoiceUptoSaid : Prop := fnExactRankOfChoiceUptoRow.holds Try.pinned (OpenSpec.upto fnExactRankOfChoiceSpec)

/-- 'laws.FnExactChoiceAt', WHERE WHAT IT READS IS OF BULK AT MOST 1048576: true; the input reads as it did. -/
def fnExactChoiceAtUptoRow : OpenClaim := { program := "ytomaodhlcacobaa", sum := "d1d26d35b5554385e35b6735c7b5b299611980b5e14cd53157ad8a35242474f3", func := "loop.example/g01314/laws.FnExactChoiceAt", spec := "fnExactChoiceAt", recurses := true, apart := false, narrowed := true }
def FnExactChoiceAtUptoSaid : Prop := fnExactChoiceAtUptoRow.holds Try.pinned (OpenSpec.upto fnExactChoiceAtSpec)

/-- 'laws.FnExactMixedAt', WHERE WHAT IT READS IS OF BULK AT MOST 1048576: true; the input reads as it did. -/
def fnExactMixedAtUptoRow : OpenClaim := { program := "ytomaodhlcacobaa", sum := "d1d26d35b5554385e35b6735c7b5b299611980b5e14cd53157ad8a35242474f3", func := "loop.example/g01314/laws.FnExactMixedAt", spec := "fnExactMixedAt", unfollowed := true, recurses := true, apart := false, narrowed := true }
def FnExactMixedAtUptoSaid : Prop := fnExactMixedAtUptoRow.holds Try.pinned (OpenSpec.upto fnExactMixedAtSpec)

/-- 'laws.FnExactRankOfSwapped', WHERE WHAT IT READS IS OF BULK AT MOST 1048576: true; the input reads as it did. -/
def fnExactRankOfSwappedUptoRow : OpenClaim := { program := "ytomaodhlcacobaa", sum := "d1d26d35b5554385e35b6735c7b5b299611980b5e14cd53157ad8a35242474f3", func := "loop.example/g01314/laws.FnExactRankOfSwapped", spec := "fnExactRankOfSwapped", recurses := true, apart := false, narrowed := true }
def FnExactRankOfSwappedUptoSaid : Prop := fnExactRankOfSwappedUptoRow.holds Try.pinned (OpenSpec.upto fnExactRankOfSwappedSpec)

/-- 'laws.FnExactSwapPlace', WHERE WHAT IT READS IS OF BULK AT MOST 1048576: true; the input reads as it did. -/
def fnExactSwapPlaceUptoRow : OpenClaim := { program := "ytomaodhlcacobaa", sum := "d1d26d35b5554385e35b6735c7b5b299611980b5e14cd53157ad8a35242474f3", func := "loop.example/g01314/laws.FnExactSwapPlace", spec := "fnExactSwapPlace", inPlace := ["slices.overlaps[int]"], recurses := true, apart := false, narrowed := true }
def FnExactSwapPlaceUptoSaid : Prop := fnExactSwapPlaceUptoRow.holds Try.pinned (OpenSpec.upto fnExactSwapPlaceSpec)

/-- 'laws.FnExactSwappedAt', WHERE WHAT IT READS IS OF BULK AT MOST 1048576: true; the input reads as it did. -/
def fnExactSwappedAtUptoRow : OpenClaim := { program := "ytomaodhlcacobaa", sum := "d1d26d35b5554385e35b6735c7b5b299611980b5e14cd53157ad8a35242474f3", func := "loop.example/g01314/laws.FnExactSwappedAt", spec := "fnExactSwappedAt", inPlace := ["slices.overlaps[int]"], recurses := true, apart := false, narrowed := true }
def FnExactSwappedAtUptoSaid : Prop := fnExactSwappedAtUptoRow.holds Try.pinned (OpenSpec.upto fnExactSwappedAtSpec)

end Rows
end Go.Proofs.Ytomaodhlcacobaa
