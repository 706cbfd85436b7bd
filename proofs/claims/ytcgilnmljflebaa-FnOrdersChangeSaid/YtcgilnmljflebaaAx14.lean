-- written by a program of this session's over the kit's print (xp.py)
import Derived.Test.YtcgilnmljflebaaAx0
import Derived.Test.YtcgilnmljflebaaAx1
import Derived.Test.YtcgilnmljflebaaAx2
import Derived.Test.YtcgilnmljflebaaAx3
import Derived.Test.YtcgilnmljflebaaAx4
import Derived.Test.YtcgilnmljflebaaAx5
import Derived.Test.YtcgilnmljflebaaAx6
import Derived.Test.YtcgilnmljflebaaAx7
import Derived.Test.YtcgilnmljflebaaAx8
import Derived.Test.YtcgilnmljflebaaAx9
import Derived.Test.YtcgilnmljflebaaAx10
import Derived.Test.YtcgilnmljflebaaAx11
import Derived.Test.YtcgilnmljflebaaAx12
import Derived.Test.YtcgilnmljflebaaAx13
-- halved
namespace Go.Proofs.Ytcgilnmljflebaa.A
-- slim
set_option maxHeartbeats 8000000
set_option maxRecDepth 100000
open Go.RowKit Go.Proofs.YtcgilnmljflebaaW.PrintWords Go.Proofs.YtcgilnmljflebaaW.PrintLast Go.Proofs.YtcgilnmljflebaaW.PrintMore
attribute [local go_sem] max2_int min2_int max_two min_two max_three min_three max_four min_four   -- for this text's walks alone
set_option linter.unusedVariables false
set_option linter.unusedSimpArgs false
mutual
def laws_FnOrdersChange.j0 : Nat → List Int → Int → Int → List Int → Bool → Bool → Option (Bool)
 | 0, _, _, _, _, _, _ => none
 | k + 1, x1, x5, x6, x7, x8, x111 => if x111 = true then (some false) else (if x8 = true then ((impl_RankOfSet.f k x5 x7).bind fun bt541 => (if bt541.2 = true then (if bt541.1 = x6 then ((laws_xRises.f k x7).bind fun t543 => (laws_FnOrdersChange.j1 k x1 x5 x6 x7 (!t543))) else (laws_FnOrdersChange.j1 k x1 x5 x6 x7 true)) else (laws_FnOrdersChange.j1 k x1 x5 x6 x7 true))) else (laws_FnOrdersChange.j2 k x1))
def laws_FnOrdersChange.j2 : Nat → List Int → Option (Bool)
 | 0, _ => none
 | k + 1, x1 => (spec_DrawChoiceAt.f k x1).bind fun bt549 => ((impl_ChoiceAt.f k bt549.1 bt549.2.1 bt549.2.2).bind fun bt552 => ((spec_ChoiceAt.f k bt549.1 bt549.2.1 bt549.2.2).bind fun bt556 => ((impl_CountChoices.f k bt549.1 bt549.2.1).bind fun bt560 => ((spec_CountChoices.f k bt549.1 bt549.2.1).bind fun bt562 => ((spec_DrawRankOfChoice.f k x1).bind fun bt564 => ((impl_RankOfChoice.f k bt564.1 bt564.2).bind fun bt568 => ((spec_RankOfChoice.f k bt564.1 bt564.2).bind fun bt570 => ((impl_RankOfSet.f k bt564.1 bt564.2).bind fun bt572 => ((spec_RankOfSet.f k bt564.1 bt564.2).bind fun bt574 => (if (bt552.2 != bt556.2) = true then (laws_FnOrdersChange.j3 k x1 bt549.1 bt549.2.1 bt549.2.2 bt552.1 bt552.2 bt560.1 bt564.1 bt564.2 bt568.1 bt568.2 bt572.1 true) else ((laws_xSame.f k bt552.1 bt556.1).bind fun t576 => (if t576 = true then (if (bt560.2 != bt562.2) = true then (laws_FnOrdersChange.j3 k x1 bt549.1 bt549.2.1 bt549.2.2 bt552.1 bt552.2 bt560.1 bt564.1 bt564.2 bt568.1 bt568.2 bt572.1 true) else (if bt560.1 = bt562.1 then (if (bt568.2 != bt570.2) = true then (laws_FnOrdersChange.j3 k x1 bt549.1 bt549.2.1 bt549.2.2 bt552.1 bt552.2 bt560.1 bt564.1 bt564.2 bt568.1 bt568.2 bt572.1 true) else (if bt568.1 = bt570.1 then (if (bt572.2 != bt574.2) = true then (laws_FnOrdersChange.j3 k x1 bt549.1 bt549.2.1 bt549.2.2 bt552.1 bt552.2 bt560.1 bt564.1 bt564.2 bt568.1 bt568.2 bt572.1 true) else (if bt572.1 = bt574.1 then (if bt560.2 = true then (if bt549.2.2 ≥ 0 then (if (bt552.2 != (decide (bt549.2.2 < bt560.1))) = true then (laws_FnOrdersChange.j3 k x1 bt549.1 bt549.2.1 bt549.2.2 bt552.1 bt552.2 bt560.1 bt564.1 bt564.2 bt568.1 bt568.2 bt572.1 true) else (laws_FnOrdersChange.j3 k x1 bt549.1 bt549.2.1 bt549.2.2 bt552.1 bt552.2 bt560.1 bt564.1 bt564.2 bt568.1 bt568.2 bt572.1 (bt572.2 != bt568.2))) else (if (bt552.2 != false) = true then (laws_FnOrdersChange.j3 k x1 bt549.1 bt549.2.1 bt549.2.2 bt552.1 bt552.2 bt560.1 bt564.1 bt564.2 bt568.1 bt568.2 bt572.1 true) else (laws_FnOrdersChange.j3 k x1 bt549.1 bt549.2.1 bt549.2.2 bt552.1 bt552.2 bt560.1 bt564.1 bt564.2 bt568.1 bt568.2 bt572.1 (bt572.2 != bt568.2)))) else (if (bt552.2 != false) = true then (laws_FnOrdersChange.j3 k x1 bt549.1 bt549.2.1 bt549.2.2 bt552.1 bt552.2 bt560.1 bt564.1 bt564.2 bt568.1 bt568.2 bt572.1 true) else (laws_FnOrdersChange.j3 k x1 bt549.1 bt549.2.1 bt549.2.2 bt552.1 bt552.2 bt560.1 bt564.1 bt564.2 bt568.1 bt568.2 bt572.1 (bt572.2 != bt568.2)))) else (laws_FnOrdersChange.j3 k x1 bt549.1 bt549.2.1 bt549.2.2 bt552.1 bt552.2 bt560.1 bt564.1 bt564.2 bt568.1 bt568.2 bt572.1 true))) else (laws_FnOrdersChange.j3 k x1 bt549.1 bt549.2.1 bt549.2.2 bt552.1 bt552.2 bt560.1 bt564.1 bt564.2 bt568.1 bt568.2 bt572.1 true))) else (laws_FnOrdersChange.j3 k x1 bt549.1 bt549.2.1 bt549.2.2 bt552.1 bt552.2 bt560.1 bt564.1 bt564.2 bt568.1 bt568.2 bt572.1 true))) else (laws_FnOrdersChange.j3 k x1 bt549.1 bt549.2.1 bt549.2.2 bt552.1 bt552.2 bt560.1 bt564.1 bt564.2 bt568.1 bt568.2 bt572.1 true)))))))))))))
def laws_FnOrdersChange.j3 : Nat → List Int → Int → Int → Int → List Int → Bool → Int → Int → List Int → Int → Bool → Int → Bool → Option (Bool)
 | 0, _, _, _, _, _, _, _, _, _, _, _, _, _ => none
 | k + 1, x1, x15, x16, x17, x18, x19, x22, x26, x27, x28, x29, x32, x270 => if x270 = true then (some false) else (if x19 = true then ((impl_RankOfChoice.f k x15 x18).bind fun bt577 => (if x22 = 0 then (none) else ((impl_ChoiceAt.f k x15 x16 (Int.tmod (wrap64 (x17 + 1)) x22)).bind fun bt579 => (if bt577.2 = true then (if bt577.1 = x17 then (if (x18.length : Int) = x16 then ((laws_xRises.f k x18).bind fun t583 => (if t583 = true then (if bt579.2 = true then (if x22 > 1 then ((laws_xCommon.f k x18 bt579.1).bind fun t584 => (if t584 = (wrap64 (x16 - 1)) then (laws_FnOrdersChange.j4 k x1 x26 x27 x28 x29 x32) else (some false))) else (laws_FnOrdersChange.j4 k x1 x26 x27 x28 x29 x32)) else (some false)) else (some false))) else (some false)) else (some false)) else (some false))))) else (laws_FnOrdersChange.j4 k x1 x26 x27 x28 x29 x32))
def laws_FnOrdersChange.j4 : Nat → List Int → Int → List Int → Int → Bool → Int → Option (Bool)
 | 0, _, _, _, _, _, _ => none
 | k + 1, x1, x26, x27, x28, x29, x32 => if x29 = true then ((impl_ChoiceAt.f k x26 (x27.length : Int) x28).bind fun bt585 => ((impl_SetAt.f k x26 x32).bind fun bt589 => (if bt585.2 = true then ((laws_xSame.f k bt585.1 x27).bind fun t593 => (if t593 = true then (if bt589.2 = true then ((laws_xSame.f k bt589.1 x27).bind fun t594 => (if t594 = true then (laws_FnOrdersChange.j5 k x1) else (some false))) else (some false)) else (some false))) else (some false)))) else (laws_FnOrdersChange.j5 k x1)
def laws_FnOrdersChange.j5 : Nat → List Int → Option (Bool)
 | 0, _ => none
 | k + 1, x1 => (spec_DrawSwappedAt.f k x1).bind fun bt595 => ((impl_SwappedAt.f k bt595.1 bt595.2).bind fun bt597 => ((spec_SwappedAt.f k bt595.1 bt595.2).bind fun bt601 => ((impl_SwapPlace.f k bt595.1 bt595.2).bind fun bt605 => ((spec_SwapPlace.f k bt595.1 bt595.2).bind fun bt607 => ((spec_DrawRankOfSwapped.f k x1).bind fun t609 => ((impl_RankOfSwapped.f k t609).bind fun bt612 => ((spec_RankOfSwapped.f k t609).bind fun bt614 => ((spec_DrawMixedAt.f k x1).bind fun bt616 => ((impl_MixedAt.f k bt616.1 bt616.2).bind fun bt620 => ((spec_MixedAt.f k bt616.1 bt616.2).bind fun bt624 => ((spec_DrawRankOfMixed.f k x1).bind fun bt628 => ((impl_RankOfMixed.f k bt628.1 bt628.2).bind fun bt634 => ((spec_RankOfMixed.f k bt628.1 bt628.2).bind fun bt636 => (if (bt597.2 != bt601.2) = true then (laws_FnOrdersChange.j6 k bt595.1 bt595.2 bt597.1 bt597.2 bt605.1 bt605.2 t609 bt612.1 bt612.2 bt616.1 bt616.2 bt620.1 bt620.2 bt628.1 bt628.2 bt634.1 bt634.2 true) else ((laws_xSame.f k bt597.1 bt601.1).bind fun t638 => (if t638 = true then (if (bt605.2 != bt607.2) = true then (laws_FnOrdersChange.j6 k bt595.1 bt595.2 bt597.1 bt597.2 bt605.1 bt605.2 t609 bt612.1 bt612.2 bt616.1 bt616.2 bt620.1 bt620.2 bt628.1 bt628.2 bt634.1 bt634.2 true) else (if bt605.1 = bt607.1 then (if (bt612.2 != bt614.2) = true then (laws_FnOrdersChange.j6 k bt595.1 bt595.2 bt597.1 bt597.2 bt605.1 bt605.2 t609 bt612.1 bt612.2 bt616.1 bt616.2 bt620.1 bt620.2 bt628.1 bt628.2 bt634.1 bt634.2 true) else (if bt612.1 = bt614.1 then (if (bt620.2 != bt624.2) = true then (laws_FnOrdersChange.j6 k bt595.1 bt595.2 bt597.1 bt597.2 bt605.1 bt605.2 t609 bt612.1 bt612.2 bt616.1 bt616.2 bt620.1 bt620.2 bt628.1 bt628.2 bt634.1 bt634.2 true) else ((laws_xSame.f k bt620.1 bt624.1).bind fun t639 => (if t639 = true then (if (bt634.2 != bt636.2) = true then (laws_FnOrdersChange.j6 k bt595.1 bt595.2 bt597.1 bt597.2 bt605.1 bt605.2 t609 bt612.1 bt612.2 bt616.1 bt616.2 bt620.1 bt620.2 bt628.1 bt628.2 bt634.1 bt634.2 true) else (if bt634.1 = bt636.1 then (if bt605.2 = true then (laws_FnOrdersChange.j6 k bt595.1 bt595.2 bt597.1 bt597.2 bt605.1 bt605.2 t609 bt612.1 bt612.2 bt616.1 bt616.2 bt620.1 bt620.2 bt628.1 bt628.2 bt634.1 bt634.2 (!bt597.2)) else (laws_FnOrdersChange.j6 k bt595.1 bt595.2 bt597.1 bt597.2 bt605.1 bt605.2 t609 bt612.1 bt612.2 bt616.1 bt616.2 bt620.1 bt620.2 bt628.1 bt628.2 bt634.1 bt634.2 false)) else (laws_FnOrdersChange.j6 k bt595.1 bt595.2 bt597.1 bt597.2 bt605.1 bt605.2 t609 bt612.1 bt612.2 bt616.1 bt616.2 bt620.1 bt620.2 bt628.1 bt628.2 bt634.1 bt634.2 true))) else (laws_FnOrdersChange.j6 k bt595.1 bt595.2 bt597.1 bt597.2 bt605.1 bt605.2 t609 bt612.1 bt612.2 bt616.1 bt616.2 bt620.1 bt620.2 bt628.1 bt628.2 bt634.1 bt634.2 true)))) else (laws_FnOrdersChange.j6 k bt595.1 bt595.2 bt597.1 bt597.2 bt605.1 bt605.2 t609 bt612.1 bt612.2 bt616.1 bt616.2 bt620.1 bt620.2 bt628.1 bt628.2 bt634.1 bt634.2 true))) else (laws_FnOrdersChange.j6 k bt595.1 bt595.2 bt597.1 bt597.2 bt605.1 bt605.2 t609 bt612.1 bt612.2 bt616.1 bt616.2 bt620.1 bt620.2 bt628.1 bt628.2 bt634.1 bt634.2 true))) else (laws_FnOrdersChange.j6 k bt595.1 bt595.2 bt597.1 bt597.2 bt605.1 bt605.2 t609 bt612.1 bt612.2 bt616.1 bt616.2 bt620.1 bt620.2 bt628.1 bt628.2 bt634.1 bt634.2 true)))))))))))))))))
def laws_FnOrdersChange.j6 : Nat → Int → Int → List Int → Bool → Int → Bool → List Int → Int → Bool → List Int → Int → List Int → Bool → List Int → List Int → Int → Bool → Bool → Option (Bool)
 | 0, _, _, _, _, _, _, _, _, _, _, _, _, _, _, _, _, _, _ => none
 | k + 1, x44, x45, x46, x47, x50, x51, x54, x55, x56, x59, x60, x61, x62, x65, x66, x67, x68, x486 => if x486 = true then (some false) else (if x47 = true then ((impl_RankOfSwapped.f k x46).bind fun bt640 => (if bt640.2 = true then (if bt640.1 = x45 then (if (x46.length : Int) = x44 then (laws_FnOrdersChange.j7 k x44 x45 x46 x50 x51 x54 x55 x56 x59 x60 x61 x62 x65 x66 x67 x68) else (some false)) else (some false)) else (some false))) else (laws_FnOrdersChange.j7 k x44 x45 x46 x50 x51 x54 x55 x56 x59 x60 x61 x62 x65 x66 x67 x68))
def laws_FnOrdersChange.j7 : Nat → Int → Int → List Int → Int → Bool → List Int → Int → Bool → List Int → Int → List Int → Bool → List Int → List Int → Int → Bool → Option (Bool)
 | 0, _, _, _, _, _, _, _, _, _, _, _, _, _, _, _, _ => none
 | k + 1, x44, x45, x46, x50, x51, x54, x55, x56, x59, x60, x61, x62, x65, x66, x67, x68 => if x51 = true then ((impl_SwappedAt.f k x44 (wrap64 (x45 + 1))).bind fun bt642 => (if bt642.2 = true then ((laws_xParts.f k x46 bt642.1).bind fun t646 => (if t646 = 2 then (if 0 ≤ x50 then (if x50 < (x46.length : Int) then (if 0 ≤ (wrap64 (x50 + 1)) then (if (wrap64 (x50 + 1)) < (bt642.1.length : Int) then (if (rd x46 x50) = (rd bt642.1 (wrap64 (x50 + 1))) then (if (wrap64 (x50 + 1)) < (x46.length : Int) then (if x50 < (bt642.1.length : Int) then (if (rd x46 (wrap64 (x50 + 1))) = (rd bt642.1 x50) then (laws_FnOrdersChange.j8 k x54 x55 x56 x59 x60 x61 x62 x65 x66 x67 x68) else (some false)) else (none)) else (none)) else (some false)) else (none)) else (none)) else (none)) else (none)) else (some false))) else (some false))) else (laws_FnOrdersChange.j8 k x54 x55 x56 x59 x60 x61 x62 x65 x66 x67 x68)
def laws_FnOrdersChange.j8 : Nat → List Int → Int → Bool → List Int → Int → List Int → Bool → List Int → List Int → Int → Bool → Option (Bool)
 | 0, _, _, _, _, _, _, _, _, _, _, _ => none
 | k + 1, x54, x55, x56, x59, x60, x61, x62, x65, x66, x67, x68 => if x56 = true then ((impl_SwappedAt.f k (x54.length : Int) x55).bind fun bt651 => (if bt651.2 = true then ((laws_xSame.f k bt651.1 x54).bind fun t655 => (if t655 = true then (laws_FnOrdersChange.j9 k x59 x60 x61 x62 x65 x66 x67 x68) else (some false))) else (some false))) else (laws_FnOrdersChange.j9 k x59 x60 x61 x62 x65 x66 x67 x68)
def laws_FnOrdersChange.j9 : Nat → List Int → Int → List Int → Bool → List Int → List Int → Int → Bool → Option (Bool)
 | 0, _, _, _, _, _, _, _, _ => none
 | k + 1, x59, x60, x61, x62, x65, x66, x67, x68 => if x62 = true then ((impl_RankOfMixed.f k x59 x61).bind fun bt656 => ((impl_MixedAt.f k x59 (wrap64 (x60 + 1))).bind fun bt658 => (if bt656.2 = true then (if bt656.1 = x60 then (if bt658.2 = true then ((laws_xParts.f k x61 bt658.1).bind fun t662 => (if t662 = 1 then (laws_FnOrdersChange.j10 k x65 x66 x67 x68) else (some false))) else (laws_FnOrdersChange.j10 k x65 x66 x67 x68)) else (some false)) else (some false)))) else (laws_FnOrdersChange.j10 k x65 x66 x67 x68)
def laws_FnOrdersChange.j10 : Nat → List Int → List Int → Int → Bool → Option (Bool)
 | 0, _, _, _, _ => none
 | k + 1, x65, x66, x67, x68 => if x68 = true then ((impl_MixedAt.f k x65 x67).bind fun bt663 => (if bt663.2 = true then ((laws_xSame.f k bt663.1 x66).bind fun t667 => (some t667)) else (some false))) else (some true)
def laws_FnOrdersChange.j1 : Nat → List Int → Int → Int → List Int → Bool → Option (Bool)
 | 0, _, _, _, _, _ => none
 | k + 1, x1, x5, x6, x7, x130 => if x130 = true then (some false) else ((impl_SetAt.f k x5 (wrap64 (x6 + 1))).bind fun bt544 => (if bt544.2 = true then ((laws_xCommon.f k x7 bt544.1).bind fun t548 => (if (wrap64 ((wrap64 ((x7.length : Int) + (bt544.1.length : Int))) - (wrap64 (2 * t548)))) = 1 then (laws_FnOrdersChange.j2 k x1) else (some false))) else (laws_FnOrdersChange.j2 k x1)))
end
def laws_FnOrdersChange.f (k : Nat) (l0 : List Int) (l1 : List Int) : Option (Bool) := (laws_big.f l0 l1).bind fun t529 => (if t529 = true then (some true) else ((spec_DrawSetAt.f l0).bind fun bt530 => ((impl_SetAt.f k bt530.1 bt530.2).bind fun bt532 => ((spec_SetAt.f k bt530.1 bt530.2).bind fun bt536 => (if (bt532.2 != bt536.2) = true then (laws_FnOrdersChange.j0 k l1 bt530.1 bt530.2 bt532.1 bt532.2 true) else ((laws_xSame.f k bt532.1 bt536.1).bind fun t540 => (laws_FnOrdersChange.j0 k l1 bt530.1 bt530.2 bt532.1 bt532.2 (!t540))))))))
def laws_FnOrdersChange.T59 : Bool × List (List Nat × List Nat) := (true, [([], []), ([0], [0]), ([1], [1]), ([2], [2]), ([2], [2]), ([3, 4, 2, 2], [2, 3, 4]), ([5, 2], [2, 5]), ([2, 6], [2, 6]), ([7, 5], [7]), ([8], [8]), ([8], [8]), ([9, 10, 8], [8, 9, 10]), ([11, 8], [8, 11]), ([8], [8]), ([8], [8]), ([14, 8], [8, 14]), ([13, 15, 8], [8, 13, 15]), ([16, 8], [8, 16]), ([12, 17, 8], [8, 12, 17]), ([8, 18], [8, 18]), ([19, 8], [19]), ([20], [20]), ([20], [20]), ([22, 20], [20, 22]), ([21, 23, 20], [20, 21, 23]), ([24, 20], [20, 24]), ([20], [20]), ([20], [20]), ([26, 27, 20], [20, 26, 27]), ([28, 20], [20, 28]), ([25, 29, 20], [20, 25, 29]), ([20, 30], [20, 30])])
def laws_FnOrdersChange.B59 : List Nat := [0, 1, 3, 7, 7, 31, 63, 127, 255, 511, 511, 2047, 4095, 511, 511, 16895, 57855, 123391, 262143, 524287, 1048575, 2097151, 2097151, 6291455, 16777215, 33554431, 2097151, 2097151, 203423743, 471859199, 1073741823, 2147483647]
theorem laws_FnOrdersChange.tab59 : rtab .any (opsOf Try.f3 59) = laws_FnOrdersChange.T59 := by kernel_rfl
theorem laws_FnOrdersChange.bits59 : waitsOk laws_FnOrdersChange.T59.2 laws_FnOrdersChange.B59 = true := by kernel_rfl
def laws_FnOrdersChange.Pure : Prop := ∀ (l0 : List Int) (l1 : List Int), l0.length ≤ maxLen → l0.length * 1 ≤ 140737488351232 → (∀ x ∈ l0, (Lit.int .u8 x).wf = true) → l1.length ≤ maxLen → l1.length * 1 ≤ 140737488351232 → (∀ x ∈ l1, (Lit.int .u8 x).wf = true) → ∃ k, laws_FnOrdersChange.f k l0 l1 = some true
/-- what is left open, told apart from what holds -/
structure Hole (P : Prop) : Prop where mk :: (out : P)
abbrev o_ : Bool := false
abbrev i_ : Bool := true
/-- a frame in which the marked slots hold whatever f says -/
def maskF : List Bool → List Value → (Nat → Value) → Nat → List Value
 | [], l, _, _ => l
 | _ :: _, [], _, _ => []
 | true :: bs, _ :: l, f, i => f i :: maskF bs l f (i + 1)
 | false :: bs, x :: l, f, i => x :: maskF bs l f (i + 1)
/-- the frame l, its marked slots out of l' -/
def mergeF : List Bool → List Value → List Value → List Value
 | [], l, _ => l
 | _ :: _, [], _ => []
 | _ :: _, x :: l, [] => x :: l
 | true :: bs, _ :: l, y :: l' => y :: mergeF bs l l'
 | false :: bs, x :: l, _ :: l' => x :: mergeF bs l l'
def slotF : List Value → Nat → Value
 | [], _ => .bool false
 | x :: _, 0 => x
 | _ :: l, n + 1 => slotF l n
theorem mask_merge : ∀ (bs : List Bool) (l l' : List Value) (f : Nat → Value) (i : Nat), mergeF bs l l' = l' → (∀ j, f (i + j) = slotF l' j) → maskF bs l f i = l'
 | [], l, l', f, i, h, _ => by cases l <;> exact h
 | b :: bs, [], l', f, i, h, _ => by cases b <;> (first | exact h | (simp only [mergeF] at h; rw [← h]; rfl))
 | b :: bs, x :: l, [], f, i, h, _ => by cases b <;> simp [mergeF] at h
 | true :: bs, x :: l, y :: l', f, i, h, hf => by
  simp only [mergeF, List.cons.injEq, true_and] at h
  simp only [maskF]
  rw [mask_merge bs l l' f (i + 1) h (fun j => by rw [show i + 1 + j = i + (j + 1) by omega, hf]; rfl), show f i = y from hf 0]
 | false :: bs, x :: l, y :: l', f, i, h, hf => by
  simp only [mergeF, List.cons.injEq] at h
  simp only [maskF]
  rw [mask_merge bs l l' f (i + 1) h.2 (fun j => by rw [show i + 1 + j = i + (j + 1) by omega, hf]; rfl), h.1]
/-- ways that meet again: the slots that a statement may write are told by one function instead of a letter each -/
theorem wp_cutF {P : Program} {s : Code} {K : Act → World → Prop} {Q' : Exit → Act → World → Prop} {l : List Value} {w : World} (bs : List Bool) (R : (Nat → Value) → World → Prop)
  (rest : ∀ f w', R f w' → K ⟨(maskF bs l f 0).toArray, []⟩ w')
  (first : ∀ (J K' : Act → World → Prop), (∀ l' w', mergeF bs l l' = l' → R (slotF l') w' → J ⟨l'.toArray, []⟩ w') → (∀ a' w', Met J a' w' → K' a' w') → s.wp P (Exit.then K' Q') ⟨l.toArray, []⟩ w) : s.wp P (Exit.then K Q') ⟨l.toArray, []⟩ w := by
 refine wp_cut (fun a' w' => ∃ l', a' = ⟨l'.toArray, []⟩ ∧ mergeF bs l l' = l' ∧ R (slotF l') w') ?_ ?_
 ·rintro a' w' ⟨l', rfl, h1, h2⟩
  have := rest (slotF l') w' h2
  rwa [mask_merge bs l l' (slotF l') 0 h1 (fun j => by rw [Nat.zero_add])] at this
 ·intro J K' hJ hK
  exact first J K' (fun l' w' h1 h2 => hJ _ _ ⟨l', rfl, h1, h2⟩) hK
end Go.Proofs.Ytcgilnmljflebaa.A
