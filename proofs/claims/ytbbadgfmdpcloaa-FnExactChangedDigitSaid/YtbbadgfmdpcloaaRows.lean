/-
  No cell of these rows narrows 'for every input' (looked for: loops, veiled, ifaces, maps, wideKeys, modest, calm, conditions, laid).
  DERIVED. THE GIVEN ROWS OF THIS SEAT. 7 by the template 'for every input the law returns true; each argument reads behind the call as it read before'; 0 by the template 'total and deterministic' (their statements: YtbbadgfmdpcloaaTotals.lean).
  GIVEN WITH THE SEED: the statements are not yours to turn. If you find one false, say at which input.
  Laid BY PROGRAM, IN A SANDBOX (cutbox-rows.mjs): the forced cells as the released guide's own fill.sh prints them over the translation 353a32a876413ebe… (all of the seat's roots in one cut). By AI agents, Wed Nov 11 2026. No macro, syntax, notation, axiom, sorry.
-/
import Derived.Test.YtbbadgfmdpcloaaChecked
import GoSem.Claim
import GoSem.ClaimJoined
import GoSem.ClaimMapViews
import Derived.JoinedTies
import Derived.KernelRfl
namespace Go.Proofs.Ytbbadgfmdpcloaa
/- THE CELL 'sum', in the pinned program and in every row, IS THE sha256 OF THE DUMP (.gsa) THAT YtbbadgfmdpcloaaProg.lean LOADS. Nothing in Lean hashes anything: it is a label: what it is worth is what the hold of that sum in a sandbox is worth. -/
noncomputable def Try.pinned : Pinned := { name := "ytbbadgfmdpcloaa", sum := "353a32a876413ebecabdb72c02bb830255b42c463ccd76d23c306d288856aa16", checked := Try.checked }
namespace Rows
def none {H : Type} : Left H := { results := [], args := [] }

/-- 'laws.FnExactConstants': WHATEVER THE INPUT: true; the input reads as it did. -/
def fnExactConstantsSpec : ChangeSpec := { name := "fnExactConstants", fn := fun _ => fun
  | [] => { results := [.lit (.bool true)], args := [] }
  | _ => none }
def fnExactConstantsRow : OpenClaim := { program := "ytbbadgfmdpcloaa", sum := "353a32a876413ebecabdb72c02bb830255b42c463ccd76d23c306d288856aa16", func := "loop.example/g01314/laws.FnExactConstants", spec := "fnExactConstants", apart := false }
def FnExactConstantsSaid : Prop := fnExactConstantsRow.holds Try.pinned (OpenSpec.ofChange fnExactConstantsSpec)

/-- ITS FALSE NEIGHBOUR: 'it returns false'. Refute it at one input. -/
def fnExactConstantsWrong : ChangeSpec := { name := "fnExactConstants", fn := fun _ => fun
  | [] => { results := [.lit (.bool false)], args := [] }
  | _ => none }
def FnExactConstantsWrongFalsely : Prop := fnExactConstantsRow.holds Try.pinned (OpenSpec.ofChange fnExactConstantsWrong)

/-- 'laws.FnExactPlainSum': WHATEVER THE INPUT: true; the input reads as it did. -/
def fnExactPlainSumSpec : ChangeSpec := { name := "fnExactPlainSum", fn := fun _ => fun
  | [d1, d2] => { results := [.lit (.bool true)], args := [d1, d2] }
  | _ => none }
def fnExactPlainSumRow : OpenClaim := { program := "ytbbadgfmdpcloaa", sum := "353a32a876413ebecabdb72c02bb830255b42c463ccd76d23c306d288856aa16", func := "loop.example/g01314/laws.FnExactPlainSum", spec := "fnExactPlainSum", apart := false }
def FnExactPlainSumSaid : Prop := fnExactPlainSumRow.holds Try.pinned (OpenSpec.ofChange fnExactPlainSumSpec)

/-- ITS FALSE NEIGHBOUR: 'it returns false'. Refute it at one input. -/
def fnExactPlainSumWrong : ChangeSpec := { name := "fnExactPlainSum", fn := fun _ => fun
  | [d1, d2] => { results := [.lit (.bool false)], args := [d1, d2] }
  | _ => none }
def FnExactPlainSumWrongFalsely : Prop := fnExactPlainSumRow.holds Try.pinned (OpenSpec.ofChange fnExactPlainSumWrong)

/-- 'laws.FnExactReflectedOf': WHATEVER THE INPUT: true; the input reads as it did. -/
def fnExactReflectedOfSpec : ChangeSpec := { name := "fnExactReflectedOf", fn := fun _ => fun
  | [d] => { results := [.lit (.bool true)], args := [d] }
  | _ => none }
def fnExactReflectedOfRow : OpenClaim := { program := "ytbbadgfmdpcloaa", sum := "353a32a876413ebecabdb72c02bb830255b42c463ccd76d23c306d288856aa16", func := "loop.example/g01314/laws.FnExactReflectedOf", spec := "fnExactReflectedOf", apart := false }
def FnExactReflectedOfSaid : Prop := fnExactReflectedOfRow.holds Try.pinned (OpenSpec.ofChange fnExactReflectedOfSpec)

/-- ITS FALSE NEIGHBOUR: 'it returns false'. Refute it at one input. -/
def fnExactReflectedOfWrong : ChangeSpec := { name := "fnExactReflectedOf", fn := fun _ => fun
  | [d] => { results := [.lit (.bool false)], args := [d] }
  | _ => none }
def FnExactReflectedOfWrongFalsely : Prop := fnExactReflectedOfRow.holds Try.pinned (OpenSpec.ofChange fnExactReflectedOfWrong)

/-- 'laws.FnExactTimesChanged': WHATEVER THE INPUT: true; the input reads as it did. -/
def fnExactTimesChangedSpec : ChangeSpec := { name := "fnExactTimesChanged", fn := fun _ => fun
  | [d1, d2, d3] => { results := [.lit (.bool true)], args := [d1, d2, d3] }
  | _ => none }
def fnExactTimesChangedRow : OpenClaim := { program := "ytbbadgfmdpcloaa", sum := "353a32a876413ebecabdb72c02bb830255b42c463ccd76d23c306d288856aa16", func := "loop.example/g01314/laws.FnExactTimesChanged", spec := "fnExactTimesChanged", apart := false }
def FnExactTimesChangedSaid : Prop := fnExactTimesChangedRow.holds Try.pinned (OpenSpec.ofChange fnExactTimesChangedSpec)

/-- ITS FALSE NEIGHBOUR: 'it returns false'. Refute it at one input. -/
def fnExactTimesChangedWrong : ChangeSpec := { name := "fnExactTimesChanged", fn := fun _ => fun
  | [d1, d2, d3] => { results := [.lit (.bool false)], args := [d1, d2, d3] }
  | _ => none }
def FnExactTimesChangedWrongFalsely : Prop := fnExactTimesChangedRow.holds Try.pinned (OpenSpec.ofChange fnExactTimesChangedWrong)

/-- 'laws.FnExactNumberOfReflected': WHATEVER THE INPUT: true; the input reads as it did. -/
def fnExactNumberOfReflectedSpec : ChangeSpec := { name := "fnExactNumberOfReflected", fn := fun _ => fun
  | [d] => { results := [.lit (.bool true)], args := [d] }
  | _ => none }
def fnExactNumberOfReflectedRow : OpenClaim := { program := "ytbbadgfmdpcloaa", sum := "353a32a876413ebecabdb72c02bb830255b42c463ccd76d23c306d288856aa16", func := "loop.example/g01314/laws.FnExactNumberOfReflected", spec := "fnExactNumberOfReflected", apart := false }
def FnExactNumberOfReflectedSaid : Prop := fnExactNumberOfReflectedRow.holds Try.pinned (OpenSpec.ofChange fnExactNumberOfReflectedSpec)

/-- ITS FALSE NEIGHBOUR: 'it returns false'. Refute it at one input. -/
def fnExactNumberOfReflectedWrong : ChangeSpec := { name := "fnExactNumberOfReflected", fn := fun _ => fun
  | [d] => { results := [.lit (.bool false)], args := [d] }
  | _ => none }
def FnExactNumberOfReflectedWrongFalsely : Prop := fnExactNumberOfReflectedRow.holds Try.pinned (OpenSpec.ofChange fnExactNumberOfReflectedWrong)

/-- 'laws.FnExactChangedDigit': WHATEVER THE INPUT: true; the input reads as it did. -/
def fnExactChangedDigitSpec : ChangeSpec := { name := "fnExactChangedDigit", fn := fun _ => fun
  | [d] => { results := [.lit (.bool true)], args := [d] }
  | _ => none }
def fnExactChangedDigitRow : OpenClaim := { program := "ytbbadgfmdpcloaa", sum := "353a32a876413ebecabdb72c02bb830255b42c463ccd76d23c306d288856aa16", func := "loop.example/g01314/laws.FnExactChangedDigit", spec := "fnExactChangedDigit", apart := false }
def FnExactChangedDigitSaid : Prop := fnExactChangedDigitRow.holds Try.pinned (OpenSpec.ofChange fnExactChangedDigitSpec)

/-- ITS FALSE NEIGHBOUR: 'it returns false'. Refute it at one input. -/
def fnExactChangedDigitWrong : ChangeSpec := { name := "fnExactChangedDigit", fn := fun _ => fun
  | [d] => { results := [.lit (.bool false)], args := [d] }
  | _ => none }
def FnExactChangedDigitWrongFalsely : Prop := fnExactChangedDigitRow.holds Try.pinned (OpenSpec.ofChange fnExactChangedDigitWrong)

/-- 'laws.FnExactCountChoices': WHATEVER THE INPUT: true; the input reads as it did. -/
def fnExactCountChoicesSpec : ChangeSpec := { name := "fnExactCountChoices", fn := fun _ => fun
  | [d1, d2] => { results := [.lit (.bool true)], args := [d1, d2] }
  | _ => none }
def fnExactCountChoicesRow : OpenClaim := { program := "ytbbadgfmdpcloaa", sum := "353a32a876413ebecabdb72c02bb830255b42c463ccd76d23c306d288856aa16", func := "loop.example/g01314/laws.FnExactCountChoices", spec := "fnExactCountChoices", apart := false }
def FnExactCountChoicesSaid : Prop := fnExactCountChoicesRow.holds Try.pinned (OpenSpec.ofChange fnExactCountChoicesSpec)

/-- ITS FALSE NEIGHBOUR: 'it returns false'. Refute it at one input. -/
def fnExactCountChoicesWrong : ChangeSpec := { name := "fnExactCountChoices", fn := fun _ => fun
  | [d1, d2] => { results := [.lit (.bool false)], args := [d1, d2] }
  | _ => none }
def FnExactCountChoicesWrongFalsely : Prop := fnExactCountChoicesRow.holds Try.pinned (OpenSpec.ofChange fnExactCountChoicesWrong)

/- THE SECOND FORM. 'bulk': how many values and letters a reading holds, each counted each time it is reached (what is shared counts as often as it is met; a slice's spare places count too). A statement '..UptoSaid' is the law's where the arguments, and the package variables that the reading takes, are together of bulk at most 1048576: NARROWER than '..Said'. Prove '..Said' where nothing that the law and all that it calls make is longer than what came in: it says more and counts as full. Else prove '..UptoSaid'. A law counts once. -/
mutual
def uptoBulk {H : Type} : DataW H → Nat
  | .lit (.string bytes) => bytes.length + 1
  | .lit _ => 1
  | .nil => 1
  | .ptr d => uptoBulk d + 1
  | .slice elems spare => uptoBulkAll elems + uptoBulkAll spare + 1
  | .agg parts => uptoBulkAll parts + 1
  | .iface _ d => uptoBulk d + 1
  | .map entries => uptoBulkEntries entries + 1
  | .held _ => 1
def uptoBulkAll {H : Type} : List (DataW H) → Nat
  | [] => 0
  | d :: r => uptoBulk d + uptoBulkAll r
def uptoBulkEntries {H : Type} : List (Lit × DataW H) → Nat
  | [] => 0
  | x :: r => uptoBulkEntry x + uptoBulkEntries r
def uptoBulkEntry {H : Type} : Lit × DataW H → Nat
  | (.string bytes, d) => bytes.length + uptoBulk d + 1
  | (_, d) => uptoBulk d + 1
 end
def uptoSmall : (H : Type) → List (DataW H) → Bool := fun _ ds => decide (uptoBulkAll ds ≤ 1048576)
def OpenSpec.upto (s : _root_.Go.ChangeSpec) : _root_.Go.OpenSpec := { _root_.Go.OpenSpec.ofChange s with cond := some uptoSmall }

/-- 'laws.FnExactConstants', WHERE WHAT IT READS IS OF BULK AT MOST 1048576: true; the input reads as it did. -/
def fnExactConstantsUptoRow : OpenClaim := { program := "ytbbadgfmdpcloaa", sum := "353a32a876413ebecabdb72c02bb830255b42c463ccd76d23c306d288856aa16", func := "loop.example/g01314/laws.FnExactConstants", spec := "fnExactConstants", apart := false, narrowed := true }
def FnExactConstantsUptoSaid : Prop := fnExactConstantsUptoRow.holds Try.pinned (OpenSpec.upto fnExactConstantsSpec)

/-- 'laws.FnExactPlainSum', WHERE WHAT IT READS IS OF BULK AT MOST 1048576: true; the input reads as it did. -/
def fnExactPlainSumUptoRow : OpenClaim := { program := "ytbbadgfmdpcloaa", sum := "353a32a876413ebecabdb72c02bb830255b42c463ccd76d23c306d288856aa16", func := "loop.example/g01314/laws.FnExactPlainSum", spec := "fnExactPlainSum", apart := false, narrowed := true }
def FnExactPlainSumUptoSaid : Prop := fnExactPlainSumUptoRow.holds Try.pinned (OpenSpec.upto fnExactPlainSumSpec)

/-- 'laws.FnExactReflectedOf', WHERE WHAT IT READS IS OF BULK AT MOST 1048576: true; the input reads as it did. -/
def fnExactReflectedOfUptoRow : OpenClaim := { program := "ytbbadgfmdpcloaa", sum := "353a32a876413ebecabdb72c02bb830255b42c463ccd76d23c306d288856aa16", func := "loop.example/g01314/laws.FnExactReflectedOf", spec := "fnExactReflectedOf", apart := false, narrowed := true }
def FnExactReflectedOfUptoSaid : Prop := fnExactReflectedOfUptoRow.holds Try.pinned (OpenSpec.upto fnExactReflectedOfSpec)

/-- 'laws.FnExactTimesChanged', WHERE WHAT IT READS IS OF BULK AT MOST 1048576: true; the input reads as it did. -/
def fnExactTimesChangedUptoRow : OpenClaim := { program := "ytbbadgfmdpcloaa", sum := "353a32a876413ebecabdb72c02bb830255b42c463ccd76d23c306d288856aa16", func := "loop.example/g01314/laws.FnExactTimesChanged", spec := "fnExactTimesChanged", apart := false, narrowed := true }
def FnExactTimesChangedUptoSaid : Prop := fnExactTimesChangedUptoRow.holds Try.pinned (OpenSpec.upto fnExactTimesChangedSpec)

/-- 'laws.FnExactNumberOfReflected', WHERE WHAT IT READS IS OF BULK AT MOST 1048576: true; the input reads as it did. -/
def fnExactNumberOfReflectedUptoRow : OpenClaim := { program := "ytbbadgfmdpcloaa", sum := "353a32a876413ebecabdb72c02bb830255b42c463ccd76d23c306d288856aa16", func := "loop.example/g01314/laws.FnExactNumberOfReflected", spec := "fnExactNumberOfReflected", apart := false, narrowed := true }
def FnExactNumberOfReflectedUptoSaid : Prop := fnExactNumberOfReflectedUptoRow.holds Try.pinned (OpenSpec.upto fnExactNumberOfReflectedSpec)

/-- 'laws.FnExactChangedDigit', WHERE WHAT IT READS IS OF BULK AT MOST 1048576: true; the input reads as it did. -/
def fnExactChangedDigitUptoRow : OpenClaim := { program := "ytbbadgfmdpcloaa", sum := "353a32a876413ebecabdb72c02bb830255b42c463ccd76d23c306d288856aa16", func := "loop.example/g01314/laws.FnExactChangedDigit", spec := "fnExactChangedDigit", apart := false, narrowed := true }
def FnExactChangedDigitUptoSaid : Prop := fnExactChangedDigitUptoRow.holds Try.pinned (OpenSpec.upto fnExactChangedDigitSpec)

/-- 'laws.FnExactCountChoices', WHERE WHAT IT READS IS OF BULK AT MOST 1048576: true; the input reads as it did. -/
def fnExactCountChoicesUptoRow : OpenClaim := { program := "ytbbadgfmdpcloaa", sum := "353a32a876413ebecabdb72c02bb830255b42c463ccd76d23c306d288856aa16", func := "loop.example/g01314/laws.FnExactCountChoices", spec := "fnExactCountChoices", apart := false, narrowed := true }
def FnExactCountChoicesUptoSaid : Prop := fnExactCountChoicesUptoRow.holds Try.pinned (OpenSpec.upto fnExactCountChoicesSpec)

end Rows
end Go.Proofs.Ytbbadgfmdpcloaa
