/-
  No cell of these rows narrows 'for every input' (looked for: loops, veiled, ifaces, maps, wideKeys, modest, calm, conditions, laid).
  DERIVED. THE GIVEN ROWS OF THIS SEAT. 2 by the template 'for every input the law returns true; each argument reads behind the call as it read before'; 0 by the template 'total and deterministic' (their statements: YtpbgloppcenljaaTotals.lean).
  GIVEN WITH THE SEED: the statements are not yours to turn. If you find one false, say at which input.
  Laid BY PROGRAM, IN A SANDBOX (cutbox-rows.mjs): the forced cells as the released guide's own fill.sh prints them over the translation b56ce6e19e7ee440… (all of the seat's roots in one cut). By AI agents, Wed Nov 11 2026. No macro, syntax, notation, axiom, sorry.
-/
import Derived.Test.YtpbgloppcenljaaChecked
import GoSem.Claim
import GoSem.ClaimJoined
import GoSem.ClaimMapViews
import Derived.JoinedTies
import Derived.KernelRfl
namespace Go.Proofs.Ytpbgloppcenljaa
/- THE CELL 'sum', in the pinned program and in every row, IS THE sha256 OF THE DUMP (.gsa) THAT YtpbgloppcenljaaProg.lean LOADS. Nothing in Lean hashes anything: it is a label: what it is worth is what the hold of that sum in a sandbox is worth. -/
noncomputable def Try.pinned : Pinned := { name := "ytpbgloppcenljaa", sum := "b56ce6e19e7ee4404f29482116a6ba6f60c0a47b03feae1293e6eefb9a0e21ab", checked := Try.checked }
namespace Rows
def none {H : Type} : Left H := { results := [], args := [] }

/-- 'laws.FnExactCountAllowed': WHATEVER THE INPUT: true; the input reads as it did. -/
def fnExactCountAllowedSpec : ChangeSpec := { name := "fnExactCountAllowed", fn := fun _ => fun
  | [d] => { results := [.lit (.bool true)], args := [d] }
  | _ => none }
def fnExactCountAllowedRow : OpenClaim := { program := "ytpbgloppcenljaa", sum := "b56ce6e19e7ee4404f29482116a6ba6f60c0a47b03feae1293e6eefb9a0e21ab", func := "loop.example/g01314/laws.FnExactCountAllowed", spec := "fnExactCountAllowed", unfollowed := true, recurses := true, apart := false }
def FnExactCountAllowedSaid : Prop := fnExactCountAllowedRow.holds Try.pinned (OpenSpec.ofChange fnExactCountAllowedSpec)

/-- ITS FALSE NEIGHBOUR: 'it returns false'. Refute it at one input. -/
def fnExactCountAllowedWrong : ChangeSpec := { name := "fnExactCountAllowed", fn := fun _ => fun
  | [d] => { results := [.lit (.bool false)], args := [d] }
  | _ => none }
def FnExactCountAllowedWrongFalsely : Prop := fnExactCountAllowedRow.holds Try.pinned (OpenSpec.ofChange fnExactCountAllowedWrong)

/-- 'laws.FnExactAllowedStates': WHATEVER THE INPUT: true; the input reads as it did. -/
def fnExactAllowedStatesSpec : ChangeSpec := { name := "fnExactAllowedStates", fn := fun _ => fun
  | [d] => { results := [.lit (.bool true)], args := [d] }
  | _ => none }
def fnExactAllowedStatesRow : OpenClaim := { program := "ytpbgloppcenljaa", sum := "b56ce6e19e7ee4404f29482116a6ba6f60c0a47b03feae1293e6eefb9a0e21ab", func := "loop.example/g01314/laws.FnExactAllowedStates", spec := "fnExactAllowedStates", unfollowed := true, recurses := true, apart := false }
def FnExactAllowedStatesSaid : Prop := fnExactAllowedStatesRow.holds Try.pinned (OpenSpec.ofChange fnExactAllowedStatesSpec)

/-- ITS FALSE NEIGHBOUR: 'it returns false'. Refute it at one input. -/
def fnExactAllowedStatesWrong : ChangeSpec := { name := "fnExactAllowedStates", fn := fun _ => fun
  | [d] => { results := [.lit (.bool false)], args := [d] }
  | _ => none }
def FnExactAllowedStatesWrongFalsely : Prop := fnExactAllowedStatesRow.holds Try.pinned (OpenSpec.ofChange fnExactAllowedStatesWrong)

/- THE SECOND FORM. 'bulk': how many values and letters a reading holds, each counted each time it is reached (what is shared counts as often as it is met; a slice's spare places count too). A statement '..UptoSaid' is the law's where the arguments, and the package variables that the reading takes, are together of bulk at most 1048576: NARROWER than '..Said'. Prove '..Said' where nothing that the law and all that it calls make is longer than what came in: it says more and counts as full. Else prove '..UptoSaid'. A law counts once. -/
mutual
def uptoBulk {H : Type} : DataW H → Nat
  | .lit (.string bytes) => bytes.length + 1
  | .lit _ => 1
  | .nil => 1
  | .ptr d => uptoBulk d + 1
  | .slice elems spare => uptoBulkAll elems + uptoBulkAll spare + 1
  | .agg parts => uptoBulkAll parts + 1
  | .iface _ d => uptoBulk d + 1
  | .map entries => uptoBulkEntries entries + 1
  | .held _ => 1
def uptoBulkAll {H : Type} : List (DataW H) → Nat
  | [] => 0
  | d :: r => uptoBulk d + uptoBulkAll r
def uptoBulkEntries {H : Type} : List (Lit × DataW H) → Nat
  | [] => 0
  | x :: r => uptoBulkEntry x + uptoBulkEntries r
def uptoBulkEntry {H : Type} : Lit × DataW H → Nat
  | (.string bytes, d) => bytes.length + uptoBulk d + 1
  | (_, d) => uptoBulk d + 1
 end
def uptoSmall : (H : Type) → List (DataW H) → Bool := fun _ ds => decide (uptoBulkAll ds ≤ 1048576)
def OpenSpec.upto (s : _root_.Go.ChangeSpec) : _root_.Go.OpenSpec := { _root_.Go.OpenSpec.ofChange s with cond := some uptoSmall }

/-- 'laws.FnExactCountAllowed', WHERE WHAT IT READS IS OF BULK AT MOST 1048576: true; the input reads as it did. -/
def fnExactCountAllowedUptoRow : OpenClaim := { program := "ytpbgloppcenljaa", sum := "b56ce6e19e7ee4404f29482116a6ba6f60c0a47b03feae1293e6eefb9a0e21ab", func := "loop.example/g01314/laws.FnExactCountAllowed", spec := "fnExactCountAllowed", unfollowed := true, recurses := true, apart := false, narrowed := true }
def FnExactCountAllowedUptoSaid : Prop := fnExactCountAllowedUptoRow.holds Try.pinned (OpenSpec.upto fnExactCountAllowedSpec)

/-- 'laws.FnExactAllowedStates', WHERE WHAT IT READS IS OF BULK AT MOST 1048576: true; the input reads as it did. -/
def fnExactAllowedStatesUptoRow : OpenClaim := { program := "ytpbgloppcenljaa", sum := "b56ce6e19e7ee4404f29482116a6ba6f60c0a47b03feae1293e6eefb9a0e21ab", func := "loop.example/g01314/laws.FnExactAllowedStates", spec := "fnExactAllowedStates", unfollowed := true, recurses := true, apart := false, narrowed := true }
def FnExactAllowedStatesUptoSaid : Prop := fnExactAllowedStatesUptoRow.holds Try.pinned (OpenSpec.upto fnExactAllowedStatesSpec)

end Rows
end Go.Proofs.Ytpbgloppcenljaa
