-- written by a program of this session's over the kit's print (xp.py)
import Derived.Test.YtlkkkkmkaghnkaaDoorAx0
import Derived.Test.YtlkkkkmkaghnkaaDoorAx1
import Derived.Test.YtlkkkkmkaghnkaaDoorAx2
import Derived.Test.YtlkkkkmkaghnkaaDoorAx3
import Derived.Test.YtlkkkkmkaghnkaaDoorAx4
import Derived.Test.YtlkkkkmkaghnkaaDoorAx5
import Derived.Test.YtlkkkkmkaghnkaaDoorAx6
import Derived.Test.YtlkkkkmkaghnkaaDoorAx7
namespace Go.Proofs.YtlkkkkmkaghnkaaDoor.A
open Go.RowKit Go.Proofs.YtlkkkkmkaghnkaaDoorW.PrintWords Go.Proofs.YtlkkkkmkaghnkaaDoorW.PrintLast Go.Proofs.YtlkkkkmkaghnkaaDoorW.PrintMore
attribute [local go_sem] max2_int min2_int max_two min_two max_three min_three max_four min_four   -- for this text's walks alone
set_option linter.unusedVariables false
set_option linter.unusedSimpArgs false

/-! ### laws_FnWaysLeadOfAll: function 3 -/
mutual
def laws_FnWaysLeadOfAll.j0 : Nat → ByteArray → ByteArray → Int → List Int → ByteArray → Bool → Option (Bool)
  | 0, _, _, _, _, _, _ => none
  | k + 1, x0, x1, x2, x3, x4, x98 => if x98 = true then (some true) else ((impl_WayTo.f k x0 x1).bind fun bt264 => ((spec_WayTo.f k x0 x1).bind fun bt268 => ((impl_FewestMoves.f k x0 x1).bind fun bt272 => ((spec_FewestMoves.f k x0 x1).bind fun bt274 => ((impl_NextMove.f k x0 x1).bind fun bt276 => ((spec_NextMove.f k x0 x1).bind fun bt278 => ((impl_StatesBetween.f k x0 x1).bind fun bt280 => ((spec_StatesBetween.f k x0 x1).bind fun bt284 => ((impl_MiddleOf.f k x0 x1).bind fun bt288 => ((spec_MiddleOf.f k x0 x1).bind fun bt290 => ((impl_TimesMoved.f k x0 x1).bind fun bt292 => ((spec_TimesMoved.f k x0 x1).bind fun bt296 => (if (bt264.2 != bt268.2) = true then (laws_FnWaysLeadOfAll.j1 k x0 x1 x2 x3 x4 bt264.1 bt264.2 bt272.1 bt272.2 bt276.1 bt276.2 bt280.1 bt280.2 bt288.1 bt292.1 true) else ((laws_ySame.f k bt264.1 bt268.1).bind fun t300 => (if t300 = true then (if (bt272.2 != bt274.2) = true then (laws_FnWaysLeadOfAll.j1 k x0 x1 x2 x3 x4 bt264.1 bt264.2 bt272.1 bt272.2 bt276.1 bt276.2 bt280.1 bt280.2 bt288.1 bt292.1 true) else (if bt272.1 = bt274.1 then (if (bt276.2 != bt278.2) = true then (laws_FnWaysLeadOfAll.j1 k x0 x1 x2 x3 x4 bt264.1 bt264.2 bt272.1 bt272.2 bt276.1 bt276.2 bt280.1 bt280.2 bt288.1 bt292.1 true) else (if bt276.1 = bt278.1 then (if (bt280.2 != bt284.2) = true then (laws_FnWaysLeadOfAll.j1 k x0 x1 x2 x3 x4 bt264.1 bt264.2 bt272.1 bt272.2 bt276.1 bt276.2 bt280.1 bt280.2 bt288.1 bt292.1 true) else ((laws_yTexts.f k bt280.1 bt284.1).bind fun t301 => (if t301 = true then (if (bt288.2 != bt290.2) = true then (laws_FnWaysLeadOfAll.j1 k x0 x1 x2 x3 x4 bt264.1 bt264.2 bt272.1 bt272.2 bt276.1 bt276.2 bt280.1 bt280.2 bt288.1 bt292.1 true) else (if bt288.1.toList = bt290.1.toList then (if (bt292.2 != bt296.2) = true then (laws_FnWaysLeadOfAll.j1 k x0 x1 x2 x3 x4 bt264.1 bt264.2 bt272.1 bt272.2 bt276.1 bt276.2 bt280.1 bt280.2 bt288.1 bt292.1 true) else ((laws_ySame.f k bt292.1 bt296.1).bind fun t302 => (if t302 = true then (if bt272.2 = true then (if (bt264.2 != (decide (bt272.1 ≤ 2000))) = true then (laws_FnWaysLeadOfAll.j1 k x0 x1 x2 x3 x4 bt264.1 bt264.2 bt272.1 bt272.2 bt276.1 bt276.2 bt280.1 bt280.2 bt288.1 bt292.1 true) else (if (bt276.2 != (x0.toList != x1.toList)) = true then (laws_FnWaysLeadOfAll.j1 k x0 x1 x2 x3 x4 bt264.1 bt264.2 bt272.1 bt272.2 bt276.1 bt276.2 bt280.1 bt280.2 bt288.1 bt292.1 true) else (if (bt280.2 != (decide (bt272.1 < 2000))) = true then (laws_FnWaysLeadOfAll.j1 k x0 x1 x2 x3 x4 bt264.1 bt264.2 bt272.1 bt272.2 bt276.1 bt276.2 bt280.1 bt280.2 bt288.1 bt292.1 true) else (if (bt288.2 != bt272.2) = true then (laws_FnWaysLeadOfAll.j1 k x0 x1 x2 x3 x4 bt264.1 bt264.2 bt272.1 bt272.2 bt276.1 bt276.2 bt280.1 bt280.2 bt288.1 bt292.1 true) else (laws_FnWaysLeadOfAll.j1 k x0 x1 x2 x3 x4 bt264.1 bt264.2 bt272.1 bt272.2 bt276.1 bt276.2 bt280.1 bt280.2 bt288.1 bt292.1 (bt292.2 != bt272.2)))))) else (if (bt264.2 != false) = true then (laws_FnWaysLeadOfAll.j1 k x0 x1 x2 x3 x4 bt264.1 bt264.2 bt272.1 bt272.2 bt276.1 bt276.2 bt280.1 bt280.2 bt288.1 bt292.1 true) else (if (bt276.2 != false) = true then (laws_FnWaysLeadOfAll.j1 k x0 x1 x2 x3 x4 bt264.1 bt264.2 bt272.1 bt272.2 bt276.1 bt276.2 bt280.1 bt280.2 bt288.1 bt292.1 true) else (if (bt280.2 != false) = true then (laws_FnWaysLeadOfAll.j1 k x0 x1 x2 x3 x4 bt264.1 bt264.2 bt272.1 bt272.2 bt276.1 bt276.2 bt280.1 bt280.2 bt288.1 bt292.1 true) else (if (bt288.2 != bt272.2) = true then (laws_FnWaysLeadOfAll.j1 k x0 x1 x2 x3 x4 bt264.1 bt264.2 bt272.1 bt272.2 bt276.1 bt276.2 bt280.1 bt280.2 bt288.1 bt292.1 true) else (laws_FnWaysLeadOfAll.j1 k x0 x1 x2 x3 x4 bt264.1 bt264.2 bt272.1 bt272.2 bt276.1 bt276.2 bt280.1 bt280.2 bt288.1 bt292.1 (bt292.2 != bt272.2))))))) else (laws_FnWaysLeadOfAll.j1 k x0 x1 x2 x3 x4 bt264.1 bt264.2 bt272.1 bt272.2 bt276.1 bt276.2 bt280.1 bt280.2 bt288.1 bt292.1 true)))) else (laws_FnWaysLeadOfAll.j1 k x0 x1 x2 x3 x4 bt264.1 bt264.2 bt272.1 bt272.2 bt276.1 bt276.2 bt280.1 bt280.2 bt288.1 bt292.1 true))) else (laws_FnWaysLeadOfAll.j1 k x0 x1 x2 x3 x4 bt264.1 bt264.2 bt272.1 bt272.2 bt276.1 bt276.2 bt280.1 bt280.2 bt288.1 bt292.1 true)))) else (laws_FnWaysLeadOfAll.j1 k x0 x1 x2 x3 x4 bt264.1 bt264.2 bt272.1 bt272.2 bt276.1 bt276.2 bt280.1 bt280.2 bt288.1 bt292.1 true))) else (laws_FnWaysLeadOfAll.j1 k x0 x1 x2 x3 x4 bt264.1 bt264.2 bt272.1 bt272.2 bt276.1 bt276.2 bt280.1 bt280.2 bt288.1 bt292.1 true))) else (laws_FnWaysLeadOfAll.j1 k x0 x1 x2 x3 x4 bt264.1 bt264.2 bt272.1 bt272.2 bt276.1 bt276.2 bt280.1 bt280.2 bt288.1 bt292.1 true))))))))))))))))
def laws_FnWaysLeadOfAll.j1 : Nat → ByteArray → ByteArray → Int → List Int → ByteArray → List Int → Bool → Int → Bool → Int → Bool → List ByteArray → Bool → ByteArray → List Int → Bool → Option (Bool)
  | 0, _, _, _, _, _, _, _, _, _, _, _, _, _, _, _, _ => none
  | k + 1, x0, x1, x2, x3, x4, x11, x12, x15, x16, x19, x20, x23, x24, x27, x31, x269 => if x269 = true then (some false) else (if x16 = true then ((impl_FewestMoves.f k x1 x0).bind fun bt303 => ((impl_TimesMoved.f k x1 x0).bind fun bt305 => ((impl_FewestMoves.f k x0 x27).bind fun bt309 => ((impl_FewestMoves.f k x27 x1).bind fun bt311 => (if bt303.2 = true then (if bt303.1 = x15 then (if ((x15 == 0) != (x0.toList == x1.toList)) = true then (some false) else (if bt305.2 = true then ((laws_ySame.f k bt305.1 x31).bind fun t313 => (if t313 = true then ((laws_ySum.f k x31).bind fun t314 => (if t314 = x15 then (if bt309.2 = true then (if bt309.1 = (wrap64 (Int.tdiv x15 2)) then (if bt311.2 = true then (if (wrap64 (bt309.1 + bt311.1)) = x15 then (laws_FnWaysLeadOfAll.j2 k x0 x1 x2 x3 x4 x11 x12 x15 x19 x20 x23 x24 x31) else (some false)) else (some false)) else (some false)) else (some false)) else (some false))) else (some false))) else (some false))) else (some false)) else (some false)))))) else (laws_FnWaysLeadOfAll.j2 k x0 x1 x2 x3 x4 x11 x12 x15 x19 x20 x23 x24 x31))
def laws_FnWaysLeadOfAll.j2 : Nat → ByteArray → ByteArray → Int → List Int → ByteArray → List Int → Bool → Int → Int → Bool → List ByteArray → Bool → List Int → Option (Bool)
  | 0, _, _, _, _, _, _, _, _, _, _, _, _, _ => none
  | k + 1, x0, x1, x2, x3, x4, x11, x12, x15, x19, x20, x23, x24, x31 => if x12 = true then ((impl_PlayMoves.f k x0 x11).bind fun bt315 => (if bt315.2 = true then (if bt315.1.toList = x1.toList then (if (x11.length : Int) = x15 then (if x20 = true then (if 0 < (x11.length : Int) then (laws_FnWaysLeadOfAll.j3 k x0 x1 x2 x3 x4 x11 x15 x23 x24 x31 ((rd x11 0) != x19)) else (none)) else (laws_FnWaysLeadOfAll.j3 k x0 x1 x2 x3 x4 x11 x15 x23 x24 x31 false)) else (laws_FnWaysLeadOfAll.j3 k x0 x1 x2 x3 x4 x11 x15 x23 x24 x31 true)) else (laws_FnWaysLeadOfAll.j3 k x0 x1 x2 x3 x4 x11 x15 x23 x24 x31 true)) else (laws_FnWaysLeadOfAll.j3 k x0 x1 x2 x3 x4 x11 x15 x23 x24 x31 true))) else (laws_FnWaysLeadOfAll.j6 k x0 x1 x2 x3 x4 x15 x23 x24)
def laws_FnWaysLeadOfAll.j6 : Nat → ByteArray → ByteArray → Int → List Int → ByteArray → Int → List ByteArray → Bool → Option (Bool)
  | 0, _, _, _, _, _, _, _, _ => none
  | k + 1, x0, x1, x2, x3, x4, x15, x23, x24 => if x24 = true then (if (x23.length : Int) = (wrap64 (x15 + 1)) then (if 0 < (x23.length : Int) then (if (rdOf ByteArray.empty x23 0).toList = x0.toList then (if 0 ≤ x15 then (if x15 < (x23.length : Int) then (laws_FnWaysLeadOfAll.j7 k x2 x3 x4 x23 ((rdOf ByteArray.empty x23 x15).toList != x1.toList)) else (none)) else (none)) else (laws_FnWaysLeadOfAll.j7 k x2 x3 x4 x23 true)) else (none)) else (laws_FnWaysLeadOfAll.j7 k x2 x3 x4 x23 true)) else (laws_FnWaysLeadOfAll.j10 k x2 x3 x4)
def laws_FnWaysLeadOfAll.j10 : Nat → Int → List Int → ByteArray → Option (Bool)
  | 0, _, _, _ => none
  | k + 1, x2, x3, x4 => (impl_MovesToClear.f k x2).bind fun bt326 => ((spec_MovesToClear.f k x2).bind fun bt328 => ((impl_AllOn.f x2).bind fun bt330 => ((spec_AllOn.f k x2).bind fun bt332 => ((impl_OtherEnd.f k x2).bind fun bt334 => ((spec_OtherEnd.f k x2).bind fun bt336 => ((impl_MovesText.f k x3).bind fun bt338 => ((spec_MovesText.f k x3).bind fun bt340 => ((impl_ParseMoves.f k x4).bind fun bt342 => ((spec_ParseMoves.f k x4).bind fun bt346 => (if (bt326.2 != bt328.2) = true then (laws_FnWaysLeadOfAll.j11 k x2 x3 x4 bt326.1 bt326.2 bt330.1 bt334.1 bt338.1 bt338.2 bt342.1 bt342.2 true) else (if bt326.1 = bt328.1 then (if (bt330.2 != bt332.2) = true then (laws_FnWaysLeadOfAll.j11 k x2 x3 x4 bt326.1 bt326.2 bt330.1 bt334.1 bt338.1 bt338.2 bt342.1 bt342.2 true) else (if bt330.1.toList = bt332.1.toList then (if (bt334.2 != bt336.2) = true then (laws_FnWaysLeadOfAll.j11 k x2 x3 x4 bt326.1 bt326.2 bt330.1 bt334.1 bt338.1 bt338.2 bt342.1 bt342.2 true) else (if bt334.1.toList = bt336.1.toList then (if (bt338.2 != bt340.2) = true then (laws_FnWaysLeadOfAll.j11 k x2 x3 x4 bt326.1 bt326.2 bt330.1 bt334.1 bt338.1 bt338.2 bt342.1 bt342.2 true) else (if bt338.1.toList = bt340.1.toList then (if (bt342.2 != bt346.2) = true then (laws_FnWaysLeadOfAll.j11 k x2 x3 x4 bt326.1 bt326.2 bt330.1 bt334.1 bt338.1 bt338.2 bt342.1 bt342.2 true) else ((laws_ySame.f k bt342.1 bt346.1).bind fun t350 => (if t350 = true then (if (bt330.2 != bt326.2) = true then (laws_FnWaysLeadOfAll.j11 k x2 x3 x4 bt326.1 bt326.2 bt330.1 bt334.1 bt338.1 bt338.2 bt342.1 bt342.2 true) else (laws_FnWaysLeadOfAll.j11 k x2 x3 x4 bt326.1 bt326.2 bt330.1 bt334.1 bt338.1 bt338.2 bt342.1 bt342.2 (bt334.2 != bt326.2))) else (laws_FnWaysLeadOfAll.j11 k x2 x3 x4 bt326.1 bt326.2 bt330.1 bt334.1 bt338.1 bt338.2 bt342.1 bt342.2 true)))) else (laws_FnWaysLeadOfAll.j11 k x2 x3 x4 bt326.1 bt326.2 bt330.1 bt334.1 bt338.1 bt338.2 bt342.1 bt342.2 true))) else (laws_FnWaysLeadOfAll.j11 k x2 x3 x4 bt326.1 bt326.2 bt330.1 bt334.1 bt338.1 bt338.2 bt342.1 bt342.2 true))) else (laws_FnWaysLeadOfAll.j11 k x2 x3 x4 bt326.1 bt326.2 bt330.1 bt334.1 bt338.1 bt338.2 bt342.1 bt342.2 true))) else (laws_FnWaysLeadOfAll.j11 k x2 x3 x4 bt326.1 bt326.2 bt330.1 bt334.1 bt338.1 bt338.2 bt342.1 bt342.2 true))))))))))))
def laws_FnWaysLeadOfAll.j11 : Nat → Int → List Int → ByteArray → Int → Bool → ByteArray → ByteArray → ByteArray → Bool → List Int → Bool → Bool → Option (Bool)
  | 0, _, _, _, _, _, _, _, _, _, _, _, _ => none
  | k + 1, x2, x3, x4, x53, x54, x57, x61, x65, x66, x69, x70, x558 => if x558 = true then (some false) else (if x54 = true then ((impl_NumberOfState.f k x57).bind fun bt351 => ((impl_NumberOfState.f k x61).bind fun bt353 => (if bt351.2 = true then (if bt351.1 = x53 then (if bt353.2 = true then (if 0 ≤ x2 then (if bt353.1 = (wrap64 ((shl .i64 1 x2) - 1)) then (if 0 ≤ (wrap64 (x2 + 1)) then (if x53 = (wrap64 (Int.tdiv (shl .i64 1 (wrap64 (x2 + 1))) 3)) then (laws_FnWaysLeadOfAll.j12 k x3 x4 x65 x66 x69 x70) else (some false)) else (none)) else (some false)) else (none)) else (some false)) else (some false)) else (some false)))) else (laws_FnWaysLeadOfAll.j12 k x3 x4 x65 x66 x69 x70))
def laws_FnWaysLeadOfAll.j12 : Nat → List Int → ByteArray → ByteArray → Bool → List Int → Bool → Option (Bool)
  | 0, _, _, _, _, _, _ => none
  | k + 1, x3, x4, x65, x66, x69, x70 => if x66 = true then ((impl_ParseMoves.f k x65).bind fun bt355 => (if bt355.2 = true then ((laws_ySame.f k bt355.1 x3).bind fun t359 => (laws_FnWaysLeadOfAll.j13 k x4 x69 x70 (!t359))) else (laws_FnWaysLeadOfAll.j13 k x4 x69 x70 true))) else (if x70 = true then ((impl_MovesText.f k x69).bind fun bt362 => (if bt362.2 = true then (some (bt362.1.toList == x4.toList)) else (some false))) else (some true))
def laws_FnWaysLeadOfAll.j13 : Nat → ByteArray → List Int → Bool → Bool → Option (Bool)
  | 0, _, _, _, _ => none
  | k + 1, x4, x69, x70, x609 => if x609 = true then (some false) else (if x70 = true then ((impl_MovesText.f k x69).bind fun bt360 => (if bt360.2 = true then (some (bt360.1.toList == x4.toList)) else (some false))) else (some true))
def laws_FnWaysLeadOfAll.j7 : Nat → Int → List Int → ByteArray → List ByteArray → Bool → Option (Bool)
  | 0, _, _, _, _, _ => none
  | k + 1, x2, x3, x4, x23, x420 => if x420 = true then (some false) else (laws_FnWaysLeadOfAll.l2 k x2 x3 x4 x23 1)
def laws_FnWaysLeadOfAll.l2 : Nat → Int → List Int → ByteArray → List ByteArray → Int → Option (Bool)
  | 0, _, _, _, _, _ => none
  | k + 1, x2, x3, x4, x23, x50 => if x50 < (x23.length : Int) then (laws_FnWaysLeadOfAll.j9 k x2 x3 x4 x23 x50 (decide (x50 < 100))) else (laws_FnWaysLeadOfAll.j9 k x2 x3 x4 x23 x50 false)
def laws_FnWaysLeadOfAll.j9 : Nat → Int → List Int → ByteArray → List ByteArray → Int → Bool → Option (Bool)
  | 0, _, _, _, _, _, _ => none
  | k + 1, x2, x3, x4, x23, x50, x428 => if x428 = true then (if 0 ≤ (wrap64 (x50 - 1)) then (if (wrap64 (x50 - 1)) < (x23.length : Int) then (if 0 ≤ x50 then (if x50 < (x23.length : Int) then ((impl_FewestMoves.f k (rdOf ByteArray.empty x23 (wrap64 (x50 - 1))) (rdOf ByteArray.empty x23 x50)).bind fun bt324 => (if bt324.2 = true then (if bt324.1 = 1 then (laws_FnWaysLeadOfAll.l2 k x2 x3 x4 x23 (wrap64 (x50 + 1))) else (some false)) else (some false))) else (none)) else (none)) else (none)) else (none)) else (laws_FnWaysLeadOfAll.j10 k x2 x3 x4)
def laws_FnWaysLeadOfAll.j3 : Nat → ByteArray → ByteArray → Int → List Int → ByteArray → List Int → Int → List ByteArray → Bool → List Int → Bool → Option (Bool)
  | 0, _, _, _, _, _, _, _, _, _, _, _ => none
  | k + 1, x0, x1, x2, x3, x4, x11, x15, x23, x24, x31, x376 => if x376 = true then (some false) else (laws_FnWaysLeadOfAll.l0 k x0 x1 x2 x3 x4 x11 x15 x23 x24 x31 (x31.length : Int) 0)
def laws_FnWaysLeadOfAll.l0 : Nat → ByteArray → ByteArray → Int → List Int → ByteArray → List Int → Int → List ByteArray → Bool → List Int → Int → Int → Option (Bool)
  | 0, _, _, _, _, _, _, _, _, _, _, _, _ => none
  | k + 1, x0, x1, x2, x3, x4, x11, x15, x23, x24, x377, x378, x379 => if x379 < x378 then (if 0 ≤ x379 then (if x379 < (x377.length : Int) then (laws_FnWaysLeadOfAll.l1 k x0 x1 x2 x3 x4 x11 x15 x23 x24 x379 (rd x377 x379) 0 x377 x378 x379 x11 (x11.length : Int) 0) else (none)) else (none)) else (laws_FnWaysLeadOfAll.j6 k x0 x1 x2 x3 x4 x15 x23 x24)
def laws_FnWaysLeadOfAll.l1 : Nat → ByteArray → ByteArray → Int → List Int → ByteArray → List Int → Int → List ByteArray → Bool → Int → Int → Int → List Int → Int → Int → List Int → Int → Int → Option (Bool)
  | 0, _, _, _, _, _, _, _, _, _, _, _, _, _, _, _, _, _, _ => none
  | k + 1, x0, x1, x2, x3, x4, x11, x15, x23, x24, x45, x46, x47, x377, x378, x379, x384, x385, x386 => if x386 < x385 then (if 0 ≤ x386 then (if x386 < (x384.length : Int) then (if (rd x384 x386) = x45 then (laws_FnWaysLeadOfAll.l1 k x0 x1 x2 x3 x4 x11 x15 x23 x24 x45 x46 (wrap64 (x47 + 1)) x377 x378 x379 x384 x385 (wrap64 (x386 + 1))) else (laws_FnWaysLeadOfAll.l1 k x0 x1 x2 x3 x4 x11 x15 x23 x24 x45 x46 x47 x377 x378 x379 x384 x385 (wrap64 (x386 + 1)))) else (none)) else (none)) else (if x47 = x46 then (laws_FnWaysLeadOfAll.l0 k x0 x1 x2 x3 x4 x11 x15 x23 x24 x377 x378 (wrap64 (x379 + 1))) else (some false))
end
def laws_FnWaysLeadOfAll.f (k : Nat) (a0 : ByteArray) (a1 : ByteArray) (a2 : Int) (l3 : List Int) (a4 : ByteArray) : Option (Bool) := if (a0.size : Int) > 1048576 then (laws_FnWaysLeadOfAll.j0 k a0 a1 a2 l3 a4 true) else (if (a1.size : Int) > 1048576 then (laws_FnWaysLeadOfAll.j0 k a0 a1 a2 l3 a4 true) else (if (l3.length : Int) > 10000 then (laws_FnWaysLeadOfAll.j0 k a0 a1 a2 l3 a4 true) else (laws_FnWaysLeadOfAll.j0 k a0 a1 a2 l3 a4 (decide ((a4.size : Int) > 1048576)))))
theorem laws_FnWaysLeadOfAll.mono_l : ∀ k, (∀ y0 y1 y2 y3 y4 y5, LeO (laws_FnWaysLeadOfAll.j0 k y0 y1 y2 y3 y4 y5) (laws_FnWaysLeadOfAll.j0 (k + 1) y0 y1 y2 y3 y4 y5)) ∧ (∀ y0 y1 y2 y3 y4 y5 y6 y7 y8 y9 y10 y11 y12 y13 y14 y15, LeO (laws_FnWaysLeadOfAll.j1 k y0 y1 y2 y3 y4 y5 y6 y7 y8 y9 y10 y11 y12 y13 y14 y15) (laws_FnWaysLeadOfAll.j1 (k + 1) y0 y1 y2 y3 y4 y5 y6 y7 y8 y9 y10 y11 y12 y13 y14 y15)) ∧ (∀ y0 y1 y2 y3 y4 y5 y6 y7 y8 y9 y10 y11 y12, LeO (laws_FnWaysLeadOfAll.j2 k y0 y1 y2 y3 y4 y5 y6 y7 y8 y9 y10 y11 y12) (laws_FnWaysLeadOfAll.j2 (k + 1) y0 y1 y2 y3 y4 y5 y6 y7 y8 y9 y10 y11 y12)) ∧ (∀ y0 y1 y2 y3 y4 y5 y6 y7, LeO (laws_FnWaysLeadOfAll.j6 k y0 y1 y2 y3 y4 y5 y6 y7) (laws_FnWaysLeadOfAll.j6 (k + 1) y0 y1 y2 y3 y4 y5 y6 y7)) ∧ (∀ y0 y1 y2, LeO (laws_FnWaysLeadOfAll.j10 k y0 y1 y2) (laws_FnWaysLeadOfAll.j10 (k + 1) y0 y1 y2)) ∧ (∀ y0 y1 y2 y3 y4 y5 y6 y7 y8 y9 y10 y11, LeO (laws_FnWaysLeadOfAll.j11 k y0 y1 y2 y3 y4 y5 y6 y7 y8 y9 y10 y11) (laws_FnWaysLeadOfAll.j11 (k + 1) y0 y1 y2 y3 y4 y5 y6 y7 y8 y9 y10 y11)) ∧ (∀ y0 y1 y2 y3 y4 y5, LeO (laws_FnWaysLeadOfAll.j12 k y0 y1 y2 y3 y4 y5) (laws_FnWaysLeadOfAll.j12 (k + 1) y0 y1 y2 y3 y4 y5)) ∧ (∀ y0 y1 y2 y3, LeO (laws_FnWaysLeadOfAll.j13 k y0 y1 y2 y3) (laws_FnWaysLeadOfAll.j13 (k + 1) y0 y1 y2 y3)) ∧ (∀ y0 y1 y2 y3 y4, LeO (laws_FnWaysLeadOfAll.j7 k y0 y1 y2 y3 y4) (laws_FnWaysLeadOfAll.j7 (k + 1) y0 y1 y2 y3 y4)) ∧ (∀ y0 y1 y2 y3 y4, LeO (laws_FnWaysLeadOfAll.l2 k y0 y1 y2 y3 y4) (laws_FnWaysLeadOfAll.l2 (k + 1) y0 y1 y2 y3 y4)) ∧ (∀ y0 y1 y2 y3 y4 y5, LeO (laws_FnWaysLeadOfAll.j9 k y0 y1 y2 y3 y4 y5) (laws_FnWaysLeadOfAll.j9 (k + 1) y0 y1 y2 y3 y4 y5)) ∧ (∀ y0 y1 y2 y3 y4 y5 y6 y7 y8 y9 y10, LeO (laws_FnWaysLeadOfAll.j3 k y0 y1 y2 y3 y4 y5 y6 y7 y8 y9 y10) (laws_FnWaysLeadOfAll.j3 (k + 1) y0 y1 y2 y3 y4 y5 y6 y7 y8 y9 y10)) ∧ (∀ y0 y1 y2 y3 y4 y5 y6 y7 y8 y9 y10 y11, LeO (laws_FnWaysLeadOfAll.l0 k y0 y1 y2 y3 y4 y5 y6 y7 y8 y9 y10 y11) (laws_FnWaysLeadOfAll.l0 (k + 1) y0 y1 y2 y3 y4 y5 y6 y7 y8 y9 y10 y11)) ∧ (∀ y0 y1 y2 y3 y4 y5 y6 y7 y8 y9 y10 y11 y12 y13 y14 y15 y16 y17, LeO (laws_FnWaysLeadOfAll.l1 k y0 y1 y2 y3 y4 y5 y6 y7 y8 y9 y10 y11 y12 y13 y14 y15 y16 y17) (laws_FnWaysLeadOfAll.l1 (k + 1) y0 y1 y2 y3 y4 y5 y6 y7 y8 y9 y10 y11 y12 y13 y14 y15 y16 y17))
  | 0 => ⟨fun _ _ _ _ _ _ r h => by simp [laws_FnWaysLeadOfAll.j0] at h, fun _ _ _ _ _ _ _ _ _ _ _ _ _ _ _ _ r h => by simp [laws_FnWaysLeadOfAll.j1] at h, fun _ _ _ _ _ _ _ _ _ _ _ _ _ r h => by simp [laws_FnWaysLeadOfAll.j2] at h, fun _ _ _ _ _ _ _ _ r h => by simp [laws_FnWaysLeadOfAll.j6] at h, fun _ _ _ r h => by simp [laws_FnWaysLeadOfAll.j10] at h, fun _ _ _ _ _ _ _ _ _ _ _ _ r h => by simp [laws_FnWaysLeadOfAll.j11] at h, fun _ _ _ _ _ _ r h => by simp [laws_FnWaysLeadOfAll.j12] at h, fun _ _ _ _ r h => by simp [laws_FnWaysLeadOfAll.j13] at h, fun _ _ _ _ _ r h => by simp [laws_FnWaysLeadOfAll.j7] at h, fun _ _ _ _ _ r h => by simp [laws_FnWaysLeadOfAll.l2] at h, fun _ _ _ _ _ _ r h => by simp [laws_FnWaysLeadOfAll.j9] at h, fun _ _ _ _ _ _ _ _ _ _ _ r h => by simp [laws_FnWaysLeadOfAll.j3] at h, fun _ _ _ _ _ _ _ _ _ _ _ _ r h => by simp [laws_FnWaysLeadOfAll.l0] at h, fun _ _ _ _ _ _ _ _ _ _ _ _ _ _ _ _ _ _ r h => by simp [laws_FnWaysLeadOfAll.l1] at h⟩
  | k + 1 => by
    obtain ⟨ih0, ih1, ih2, ih3, ih4, ih5, ih6, ih7, ih8, ih9, ih10, ih11, ih12, ih13⟩ := laws_FnWaysLeadOfAll.mono_l k
    refine ⟨?_, ?_, ?_, ?_, ?_, ?_, ?_, ?_, ?_, ?_, ?_, ?_, ?_, ?_⟩
    · intro y0 y1 y2 y3 y4 y5
      unfold laws_FnWaysLeadOfAll.j0
      repeat' first
      | (with_reducible exact ih0 _ _ _ _ _ _)
      | (with_reducible exact ih1 _ _ _ _ _ _ _ _ _ _ _ _ _ _ _ _)
      | (with_reducible exact ih2 _ _ _ _ _ _ _ _ _ _ _ _ _)
      | (with_reducible exact ih3 _ _ _ _ _ _ _ _)
      | (with_reducible exact ih4 _ _ _)
      | (with_reducible exact ih5 _ _ _ _ _ _ _ _ _ _ _ _)
      | (with_reducible exact ih6 _ _ _ _ _ _)
      | (with_reducible exact ih7 _ _ _ _)
      | (with_reducible exact ih8 _ _ _ _ _)
      | (with_reducible exact ih9 _ _ _ _ _)
      | (with_reducible exact ih10 _ _ _ _ _ _)
      | (with_reducible exact ih11 _ _ _ _ _ _ _ _ _ _ _)
      | (with_reducible exact ih12 _ _ _ _ _ _ _ _ _ _ _ _)
      | (with_reducible exact ih13 _ _ _ _ _ _ _ _ _ _ _ _ _ _ _ _ _ _)
      | (with_reducible exact impl_FewestMoves.mono _ _ _)
      | (with_reducible exact impl_MiddleOf.mono _ _ _)
      | (with_reducible exact impl_MovesText.mono _ _)
      | (with_reducible exact impl_MovesToClear.mono _ _)
      | (with_reducible exact impl_NextMove.mono _ _ _)
      | (with_reducible exact impl_NumberOfState.mono _ _)
      | (with_reducible exact impl_OtherEnd.mono _ _)
      | (with_reducible exact impl_ParseMoves.mono _ _)
      | (with_reducible exact impl_PlayMoves.mono _ _ _)
      | (with_reducible exact impl_StatesBetween.mono _ _ _)
      | (with_reducible exact impl_TimesMoved.mono _ _ _)
      | (with_reducible exact impl_WayTo.mono _ _ _)
      | (with_reducible exact laws_ySame.mono _ _ _)
      | (with_reducible exact laws_ySum.mono _ _)
      | (with_reducible exact laws_yTexts.mono _ _ _)
      | (with_reducible exact spec_AllOn.mono _ _)
      | (with_reducible exact spec_FewestMoves.mono _ _ _)
      | (with_reducible exact spec_MiddleOf.mono _ _ _)
      | (with_reducible exact spec_MovesText.mono _ _)
      | (with_reducible exact spec_MovesToClear.mono _ _)
      | (with_reducible exact spec_NextMove.mono _ _ _)
      | (with_reducible exact spec_OtherEnd.mono _ _)
      | (with_reducible exact spec_ParseMoves.mono _ _)
      | (with_reducible exact spec_StatesBetween.mono _ _ _)
      | (with_reducible exact spec_TimesMoved.mono _ _ _)
      | (with_reducible exact spec_WayTo.mono _ _ _)
      | (with_reducible exact LeO.refl _)
      | (with_reducible exact LeO.none _)
      | (with_reducible refine LeO.ite ?_ ?_)
      | (with_reducible refine LeO.bind ?_ (fun _ => ?_))
      | exact ih0 _ _ _ _ _ _
      | exact ih1 _ _ _ _ _ _ _ _ _ _ _ _ _ _ _ _
      | exact ih2 _ _ _ _ _ _ _ _ _ _ _ _ _
      | exact ih3 _ _ _ _ _ _ _ _
      | exact ih4 _ _ _
      | exact ih5 _ _ _ _ _ _ _ _ _ _ _ _
      | exact ih6 _ _ _ _ _ _
      | exact ih7 _ _ _ _
      | exact ih8 _ _ _ _ _
      | exact ih9 _ _ _ _ _
      | exact ih10 _ _ _ _ _ _
      | exact ih11 _ _ _ _ _ _ _ _ _ _ _
      | exact ih12 _ _ _ _ _ _ _ _ _ _ _ _
      | exact ih13 _ _ _ _ _ _ _ _ _ _ _ _ _ _ _ _ _ _
      | exact impl_FewestMoves.mono _ _ _
      | exact impl_MiddleOf.mono _ _ _
      | exact impl_MovesText.mono _ _
      | exact impl_MovesToClear.mono _ _
      | exact impl_NextMove.mono _ _ _
      | exact impl_NumberOfState.mono _ _
      | exact impl_OtherEnd.mono _ _
      | exact impl_ParseMoves.mono _ _
      | exact impl_PlayMoves.mono _ _ _
      | exact impl_StatesBetween.mono _ _ _
      | exact impl_TimesMoved.mono _ _ _
      | exact impl_WayTo.mono _ _ _
      | exact laws_ySame.mono _ _ _
      | exact laws_ySum.mono _ _
      | exact laws_yTexts.mono _ _ _
      | exact spec_AllOn.mono _ _
      | exact spec_FewestMoves.mono _ _ _
      | exact spec_MiddleOf.mono _ _ _
      | exact spec_MovesText.mono _ _
      | exact spec_MovesToClear.mono _ _
      | exact spec_NextMove.mono _ _ _
      | exact spec_OtherEnd.mono _ _
      | exact spec_ParseMoves.mono _ _
      | exact spec_StatesBetween.mono _ _ _
      | exact spec_TimesMoved.mono _ _ _
      | exact spec_WayTo.mono _ _ _
      | exact LeO.none _
      | refine LeO.ite ?_ ?_
      | refine LeO.bind ?_ (fun _ => ?_)
    · intro y0 y1 y2 y3 y4 y5 y6 y7 y8 y9 y10 y11 y12 y13 y14 y15
      unfold laws_FnWaysLeadOfAll.j1
      repeat' first
      | (with_reducible exact ih0 _ _ _ _ _ _)
      | (with_reducible exact ih1 _ _ _ _ _ _ _ _ _ _ _ _ _ _ _ _)
      | (with_reducible exact ih2 _ _ _ _ _ _ _ _ _ _ _ _ _)
      | (with_reducible exact ih3 _ _ _ _ _ _ _ _)
      | (with_reducible exact ih4 _ _ _)
      | (with_reducible exact ih5 _ _ _ _ _ _ _ _ _ _ _ _)
      | (with_reducible exact ih6 _ _ _ _ _ _)
      | (with_reducible exact ih7 _ _ _ _)
      | (with_reducible exact ih8 _ _ _ _ _)
      | (with_reducible exact ih9 _ _ _ _ _)
      | (with_reducible exact ih10 _ _ _ _ _ _)
      | (with_reducible exact ih11 _ _ _ _ _ _ _ _ _ _ _)
      | (with_reducible exact ih12 _ _ _ _ _ _ _ _ _ _ _ _)
      | (with_reducible exact ih13 _ _ _ _ _ _ _ _ _ _ _ _ _ _ _ _ _ _)
      | (with_reducible exact impl_FewestMoves.mono _ _ _)
      | (with_reducible exact impl_MiddleOf.mono _ _ _)
      | (with_reducible exact impl_MovesText.mono _ _)
      | (with_reducible exact impl_MovesToClear.mono _ _)
      | (with_reducible exact impl_NextMove.mono _ _ _)
      | (with_reducible exact impl_NumberOfState.mono _ _)
      | (with_reducible exact impl_OtherEnd.mono _ _)
      | (with_reducible exact impl_ParseMoves.mono _ _)
      | (with_reducible exact impl_PlayMoves.mono _ _ _)
      | (with_reducible exact impl_StatesBetween.mono _ _ _)
      | (with_reducible exact impl_TimesMoved.mono _ _ _)
      | (with_reducible exact impl_WayTo.mono _ _ _)
      | (with_reducible exact laws_ySame.mono _ _ _)
      | (with_reducible exact laws_ySum.mono _ _)
      | (with_reducible exact laws_yTexts.mono _ _ _)
      | (with_reducible exact spec_AllOn.mono _ _)
      | (with_reducible exact spec_FewestMoves.mono _ _ _)
      | (with_reducible exact spec_MiddleOf.mono _ _ _)
      | (with_reducible exact spec_MovesText.mono _ _)
      | (with_reducible exact spec_MovesToClear.mono _ _)
      | (with_reducible exact spec_NextMove.mono _ _ _)
      | (with_reducible exact spec_OtherEnd.mono _ _)
      | (with_reducible exact spec_ParseMoves.mono _ _)
      | (with_reducible exact spec_StatesBetween.mono _ _ _)
      | (with_reducible exact spec_TimesMoved.mono _ _ _)
      | (with_reducible exact spec_WayTo.mono _ _ _)
      | (with_reducible exact LeO.refl _)
      | (with_reducible exact LeO.none _)
      | (with_reducible refine LeO.ite ?_ ?_)
      | (with_reducible refine LeO.bind ?_ (fun _ => ?_))
      | exact ih0 _ _ _ _ _ _
      | exact ih1 _ _ _ _ _ _ _ _ _ _ _ _ _ _ _ _
      | exact ih2 _ _ _ _ _ _ _ _ _ _ _ _ _
      | exact ih3 _ _ _ _ _ _ _ _
      | exact ih4 _ _ _
      | exact ih5 _ _ _ _ _ _ _ _ _ _ _ _
      | exact ih6 _ _ _ _ _ _
      | exact ih7 _ _ _ _
      | exact ih8 _ _ _ _ _
      | exact ih9 _ _ _ _ _
      | exact ih10 _ _ _ _ _ _
      | exact ih11 _ _ _ _ _ _ _ _ _ _ _
      | exact ih12 _ _ _ _ _ _ _ _ _ _ _ _
      | exact ih13 _ _ _ _ _ _ _ _ _ _ _ _ _ _ _ _ _ _
      | exact impl_FewestMoves.mono _ _ _
      | exact impl_MiddleOf.mono _ _ _
      | exact impl_MovesText.mono _ _
      | exact impl_MovesToClear.mono _ _
      | exact impl_NextMove.mono _ _ _
      | exact impl_NumberOfState.mono _ _
      | exact impl_OtherEnd.mono _ _
      | exact impl_ParseMoves.mono _ _
      | exact impl_PlayMoves.mono _ _ _
      | exact impl_StatesBetween.mono _ _ _
      | exact impl_TimesMoved.mono _ _ _
      | exact impl_WayTo.mono _ _ _
      | exact laws_ySame.mono _ _ _
      | exact laws_ySum.mono _ _
      | exact laws_yTexts.mono _ _ _
      | exact spec_AllOn.mono _ _
      | exact spec_FewestMoves.mono _ _ _
      | exact spec_MiddleOf.mono _ _ _
      | exact spec_MovesText.mono _ _
      | exact spec_MovesToClear.mono _ _
      | exact spec_NextMove.mono _ _ _
      | exact spec_OtherEnd.mono _ _
      | exact spec_ParseMoves.mono _ _
      | exact spec_StatesBetween.mono _ _ _
      | exact spec_TimesMoved.mono _ _ _
      | exact spec_WayTo.mono _ _ _
      | exact LeO.none _
      | refine LeO.ite ?_ ?_
      | refine LeO.bind ?_ (fun _ => ?_)
    · intro y0 y1 y2 y3 y4 y5 y6 y7 y8 y9 y10 y11 y12
      unfold laws_FnWaysLeadOfAll.j2
      repeat' first
      | (with_reducible exact ih0 _ _ _ _ _ _)
      | (with_reducible exact ih1 _ _ _ _ _ _ _ _ _ _ _ _ _ _ _ _)
      | (with_reducible exact ih2 _ _ _ _ _ _ _ _ _ _ _ _ _)
      | (with_reducible exact ih3 _ _ _ _ _ _ _ _)
      | (with_reducible exact ih4 _ _ _)
      | (with_reducible exact ih5 _ _ _ _ _ _ _ _ _ _ _ _)
      | (with_reducible exact ih6 _ _ _ _ _ _)
      | (with_reducible exact ih7 _ _ _ _)
      | (with_reducible exact ih8 _ _ _ _ _)
      | (with_reducible exact ih9 _ _ _ _ _)
      | (with_reducible exact ih10 _ _ _ _ _ _)
      | (with_reducible exact ih11 _ _ _ _ _ _ _ _ _ _ _)
      | (with_reducible exact ih12 _ _ _ _ _ _ _ _ _ _ _ _)
      | (with_reducible exact ih13 _ _ _ _ _ _ _ _ _ _ _ _ _ _ _ _ _ _)
      | (with_reducible exact impl_FewestMoves.mono _ _ _)
      | (with_reducible exact impl_MiddleOf.mono _ _ _)
      | (with_reducible exact impl_MovesText.mono _ _)
      | (with_reducible exact impl_MovesToClear.mono _ _)
      | (with_reducible exact impl_NextMove.mono _ _ _)
      | (with_reducible exact impl_NumberOfState.mono _ _)
      | (with_reducible exact impl_OtherEnd.mono _ _)
      | (with_reducible exact impl_ParseMoves.mono _ _)
      | (with_reducible exact impl_PlayMoves.mono _ _ _)
      | (with_reducible exact impl_StatesBetween.mono _ _ _)
      | (with_reducible exact impl_TimesMoved.mono _ _ _)
      | (with_reducible exact impl_WayTo.mono _ _ _)
      | (with_reducible exact laws_ySame.mono _ _ _)
      | (with_reducible exact laws_ySum.mono _ _)
      | (with_reducible exact laws_yTexts.mono _ _ _)
      | (with_reducible exact spec_AllOn.mono _ _)
      | (with_reducible exact spec_FewestMoves.mono _ _ _)
      | (with_reducible exact spec_MiddleOf.mono _ _ _)
      | (with_reducible exact spec_MovesText.mono _ _)
      | (with_reducible exact spec_MovesToClear.mono _ _)
      | (with_reducible exact spec_NextMove.mono _ _ _)
      | (with_reducible exact spec_OtherEnd.mono _ _)
      | (with_reducible exact spec_ParseMoves.mono _ _)
      | (with_reducible exact spec_StatesBetween.mono _ _ _)
      | (with_reducible exact spec_TimesMoved.mono _ _ _)
      | (with_reducible exact spec_WayTo.mono _ _ _)
      | (with_reducible exact LeO.refl _)
      | (with_reducible exact LeO.none _)
      | (with_reducible refine LeO.ite ?_ ?_)
      | (with_reducible refine LeO.bind ?_ (fun _ => ?_))
      | exact ih0 _ _ _ _ _ _
      | exact ih1 _ _ _ _ _ _ _ _ _ _ _ _ _ _ _ _
      | exact ih2 _ _ _ _ _ _ _ _ _ _ _ _ _
      | exact ih3 _ _ _ _ _ _ _ _
      | exact ih4 _ _ _
      | exact ih5 _ _ _ _ _ _ _ _ _ _ _ _
      | exact ih6 _ _ _ _ _ _
      | exact ih7 _ _ _ _
      | exact ih8 _ _ _ _ _
      | exact ih9 _ _ _ _ _
      | exact ih10 _ _ _ _ _ _
      | exact ih11 _ _ _ _ _ _ _ _ _ _ _
      | exact ih12 _ _ _ _ _ _ _ _ _ _ _ _
      | exact ih13 _ _ _ _ _ _ _ _ _ _ _ _ _ _ _ _ _ _
      | exact impl_FewestMoves.mono _ _ _
      | exact impl_MiddleOf.mono _ _ _
      | exact impl_MovesText.mono _ _
      | exact impl_MovesToClear.mono _ _
      | exact impl_NextMove.mono _ _ _
      | exact impl_NumberOfState.mono _ _
      | exact impl_OtherEnd.mono _ _
      | exact impl_ParseMoves.mono _ _
      | exact impl_PlayMoves.mono _ _ _
      | exact impl_StatesBetween.mono _ _ _
      | exact impl_TimesMoved.mono _ _ _
      | exact impl_WayTo.mono _ _ _
      | exact laws_ySame.mono _ _ _
      | exact laws_ySum.mono _ _
      | exact laws_yTexts.mono _ _ _
      | exact spec_AllOn.mono _ _
      | exact spec_FewestMoves.mono _ _ _
      | exact spec_MiddleOf.mono _ _ _
      | exact spec_MovesText.mono _ _
      | exact spec_MovesToClear.mono _ _
      | exact spec_NextMove.mono _ _ _
      | exact spec_OtherEnd.mono _ _
      | exact spec_ParseMoves.mono _ _
      | exact spec_StatesBetween.mono _ _ _
      | exact spec_TimesMoved.mono _ _ _
      | exact spec_WayTo.mono _ _ _
      | exact LeO.none _
      | refine LeO.ite ?_ ?_
      | refine LeO.bind ?_ (fun _ => ?_)
    · intro y0 y1 y2 y3 y4 y5 y6 y7
      unfold laws_FnWaysLeadOfAll.j6
      repeat' first
      | (with_reducible exact ih0 _ _ _ _ _ _)
      | (with_reducible exact ih1 _ _ _ _ _ _ _ _ _ _ _ _ _ _ _ _)
      | (with_reducible exact ih2 _ _ _ _ _ _ _ _ _ _ _ _ _)
      | (with_reducible exact ih3 _ _ _ _ _ _ _ _)
      | (with_reducible exact ih4 _ _ _)
      | (with_reducible exact ih5 _ _ _ _ _ _ _ _ _ _ _ _)
      | (with_reducible exact ih6 _ _ _ _ _ _)
      | (with_reducible exact ih7 _ _ _ _)
      | (with_reducible exact ih8 _ _ _ _ _)
      | (with_reducible exact ih9 _ _ _ _ _)
      | (with_reducible exact ih10 _ _ _ _ _ _)
      | (with_reducible exact ih11 _ _ _ _ _ _ _ _ _ _ _)
      | (with_reducible exact ih12 _ _ _ _ _ _ _ _ _ _ _ _)
      | (with_reducible exact ih13 _ _ _ _ _ _ _ _ _ _ _ _ _ _ _ _ _ _)
      | (with_reducible exact impl_FewestMoves.mono _ _ _)
      | (with_reducible exact impl_MiddleOf.mono _ _ _)
      | (with_reducible exact impl_MovesText.mono _ _)
      | (with_reducible exact impl_MovesToClear.mono _ _)
      | (with_reducible exact impl_NextMove.mono _ _ _)
      | (with_reducible exact impl_NumberOfState.mono _ _)
      | (with_reducible exact impl_OtherEnd.mono _ _)
      | (with_reducible exact impl_ParseMoves.mono _ _)
      | (with_reducible exact impl_PlayMoves.mono _ _ _)
      | (with_reducible exact impl_StatesBetween.mono _ _ _)
      | (with_reducible exact impl_TimesMoved.mono _ _ _)
      | (with_reducible exact impl_WayTo.mono _ _ _)
      | (with_reducible exact laws_ySame.mono _ _ _)
      | (with_reducible exact laws_ySum.mono _ _)
      | (with_reducible exact laws_yTexts.mono _ _ _)
      | (with_reducible exact spec_AllOn.mono _ _)
      | (with_reducible exact spec_FewestMoves.mono _ _ _)
      | (with_reducible exact spec_MiddleOf.mono _ _ _)
      | (with_reducible exact spec_MovesText.mono _ _)
      | (with_reducible exact spec_MovesToClear.mono _ _)
      | (with_reducible exact spec_NextMove.mono _ _ _)
      | (with_reducible exact spec_OtherEnd.mono _ _)
      | (with_reducible exact spec_ParseMoves.mono _ _)
      | (with_reducible exact spec_StatesBetween.mono _ _ _)
      | (with_reducible exact spec_TimesMoved.mono _ _ _)
      | (with_reducible exact spec_WayTo.mono _ _ _)
      | (with_reducible exact LeO.refl _)
      | (with_reducible exact LeO.none _)
      | (with_reducible refine LeO.ite ?_ ?_)
      | (with_reducible refine LeO.bind ?_ (fun _ => ?_))
      | exact ih0 _ _ _ _ _ _
      | exact ih1 _ _ _ _ _ _ _ _ _ _ _ _ _ _ _ _
      | exact ih2 _ _ _ _ _ _ _ _ _ _ _ _ _
      | exact ih3 _ _ _ _ _ _ _ _
      | exact ih4 _ _ _
      | exact ih5 _ _ _ _ _ _ _ _ _ _ _ _
      | exact ih6 _ _ _ _ _ _
      | exact ih7 _ _ _ _
      | exact ih8 _ _ _ _ _
      | exact ih9 _ _ _ _ _
      | exact ih10 _ _ _ _ _ _
      | exact ih11 _ _ _ _ _ _ _ _ _ _ _
      | exact ih12 _ _ _ _ _ _ _ _ _ _ _ _
      | exact ih13 _ _ _ _ _ _ _ _ _ _ _ _ _ _ _ _ _ _
      | exact impl_FewestMoves.mono _ _ _
      | exact impl_MiddleOf.mono _ _ _
      | exact impl_MovesText.mono _ _
      | exact impl_MovesToClear.mono _ _
      | exact impl_NextMove.mono _ _ _
      | exact impl_NumberOfState.mono _ _
      | exact impl_OtherEnd.mono _ _
      | exact impl_ParseMoves.mono _ _
      | exact impl_PlayMoves.mono _ _ _
      | exact impl_StatesBetween.mono _ _ _
      | exact impl_TimesMoved.mono _ _ _
      | exact impl_WayTo.mono _ _ _
      | exact laws_ySame.mono _ _ _
      | exact laws_ySum.mono _ _
      | exact laws_yTexts.mono _ _ _
      | exact spec_AllOn.mono _ _
      | exact spec_FewestMoves.mono _ _ _
      | exact spec_MiddleOf.mono _ _ _
      | exact spec_MovesText.mono _ _
      | exact spec_MovesToClear.mono _ _
      | exact spec_NextMove.mono _ _ _
      | exact spec_OtherEnd.mono _ _
      | exact spec_ParseMoves.mono _ _
      | exact spec_StatesBetween.mono _ _ _
      | exact spec_TimesMoved.mono _ _ _
      | exact spec_WayTo.mono _ _ _
      | exact LeO.none _
      | refine LeO.ite ?_ ?_
      | refine LeO.bind ?_ (fun _ => ?_)
    · intro y0 y1 y2
      unfold laws_FnWaysLeadOfAll.j10
      repeat' first
      | (with_reducible exact ih0 _ _ _ _ _ _)
      | (with_reducible exact ih1 _ _ _ _ _ _ _ _ _ _ _ _ _ _ _ _)
      | (with_reducible exact ih2 _ _ _ _ _ _ _ _ _ _ _ _ _)
      | (with_reducible exact ih3 _ _ _ _ _ _ _ _)
      | (with_reducible exact ih4 _ _ _)
      | (with_reducible exact ih5 _ _ _ _ _ _ _ _ _ _ _ _)
      | (with_reducible exact ih6 _ _ _ _ _ _)
      | (with_reducible exact ih7 _ _ _ _)
      | (with_reducible exact ih8 _ _ _ _ _)
      | (with_reducible exact ih9 _ _ _ _ _)
      | (with_reducible exact ih10 _ _ _ _ _ _)
      | (with_reducible exact ih11 _ _ _ _ _ _ _ _ _ _ _)
      | (with_reducible exact ih12 _ _ _ _ _ _ _ _ _ _ _ _)
      | (with_reducible exact ih13 _ _ _ _ _ _ _ _ _ _ _ _ _ _ _ _ _ _)
      | (with_reducible exact impl_FewestMoves.mono _ _ _)
      | (with_reducible exact impl_MiddleOf.mono _ _ _)
      | (with_reducible exact impl_MovesText.mono _ _)
      | (with_reducible exact impl_MovesToClear.mono _ _)
      | (with_reducible exact impl_NextMove.mono _ _ _)
      | (with_reducible exact impl_NumberOfState.mono _ _)
      | (with_reducible exact impl_OtherEnd.mono _ _)
      | (with_reducible exact impl_ParseMoves.mono _ _)
      | (with_reducible exact impl_PlayMoves.mono _ _ _)
      | (with_reducible exact impl_StatesBetween.mono _ _ _)
      | (with_reducible exact impl_TimesMoved.mono _ _ _)
      | (with_reducible exact impl_WayTo.mono _ _ _)
      | (with_reducible exact laws_ySame.mono _ _ _)
      | (with_reducible exact laws_ySum.mono _ _)
      | (with_reducible exact laws_yTexts.mono _ _ _)
      | (with_reducible exact spec_AllOn.mono _ _)
      | (with_reducible exact spec_FewestMoves.mono _ _ _)
      | (with_reducible exact spec_MiddleOf.mono _ _ _)
      | (with_reducible exact spec_MovesText.mono _ _)
      | (with_reducible exact spec_MovesToClear.mono _ _)
      | (with_reducible exact spec_NextMove.mono _ _ _)
      | (with_reducible exact spec_OtherEnd.mono _ _)
      | (with_reducible exact spec_ParseMoves.mono _ _)
      | (with_reducible exact spec_StatesBetween.mono _ _ _)
      | (with_reducible exact spec_TimesMoved.mono _ _ _)
      | (with_reducible exact spec_WayTo.mono _ _ _)
      | (with_reducible exact LeO.refl _)
      | (with_reducible exact LeO.none _)
      | (with_reducible refine LeO.ite ?_ ?_)
      | (with_reducible refine LeO.bind ?_ (fun _ => ?_))
      | exact ih0 _ _ _ _ _ _
      | exact ih1 _ _ _ _ _ _ _ _ _ _ _ _ _ _ _ _
      | exact ih2 _ _ _ _ _ _ _ _ _ _ _ _ _
      | exact ih3 _ _ _ _ _ _ _ _
      | exact ih4 _ _ _
      | exact ih5 _ _ _ _ _ _ _ _ _ _ _ _
      | exact ih6 _ _ _ _ _ _
      | exact ih7 _ _ _ _
      | exact ih8 _ _ _ _ _
      | exact ih9 _ _ _ _ _
      | exact ih10 _ _ _ _ _ _
      | exact ih11 _ _ _ _ _ _ _ _ _ _ _
      | exact ih12 _ _ _ _ _ _ _ _ _ _ _ _
      | exact ih13 _ _ _ _ _ _ _ _ _ _ _ _ _ _ _ _ _ _
      | exact impl_FewestMoves.mono _ _ _
      | exact impl_MiddleOf.mono _ _ _
      | exact impl_MovesText.mono _ _
      | exact impl_MovesToClear.mono _ _
      | exact impl_NextMove.mono _ _ _
      | exact impl_NumberOfState.mono _ _
      | exact impl_OtherEnd.mono _ _
      | exact impl_ParseMoves.mono _ _
      | exact impl_PlayMoves.mono _ _ _
      | exact impl_StatesBetween.mono _ _ _
      | exact impl_TimesMoved.mono _ _ _
      | exact impl_WayTo.mono _ _ _
      | exact laws_ySame.mono _ _ _
      | exact laws_ySum.mono _ _
      | exact laws_yTexts.mono _ _ _
      | exact spec_AllOn.mono _ _
      | exact spec_FewestMoves.mono _ _ _
      | exact spec_MiddleOf.mono _ _ _
      | exact spec_MovesText.mono _ _
      | exact spec_MovesToClear.mono _ _
      | exact spec_NextMove.mono _ _ _
      | exact spec_OtherEnd.mono _ _
      | exact spec_ParseMoves.mono _ _
      | exact spec_StatesBetween.mono _ _ _
      | exact spec_TimesMoved.mono _ _ _
      | exact spec_WayTo.mono _ _ _
      | exact LeO.none _
      | refine LeO.ite ?_ ?_
      | refine LeO.bind ?_ (fun _ => ?_)
    · intro y0 y1 y2 y3 y4 y5 y6 y7 y8 y9 y10 y11
      unfold laws_FnWaysLeadOfAll.j11
      repeat' first
      | (with_reducible exact ih0 _ _ _ _ _ _)
      | (with_reducible exact ih1 _ _ _ _ _ _ _ _ _ _ _ _ _ _ _ _)
      | (with_reducible exact ih2 _ _ _ _ _ _ _ _ _ _ _ _ _)
      | (with_reducible exact ih3 _ _ _ _ _ _ _ _)
      | (with_reducible exact ih4 _ _ _)
      | (with_reducible exact ih5 _ _ _ _ _ _ _ _ _ _ _ _)
      | (with_reducible exact ih6 _ _ _ _ _ _)
      | (with_reducible exact ih7 _ _ _ _)
      | (with_reducible exact ih8 _ _ _ _ _)
      | (with_reducible exact ih9 _ _ _ _ _)
      | (with_reducible exact ih10 _ _ _ _ _ _)
      | (with_reducible exact ih11 _ _ _ _ _ _ _ _ _ _ _)
      | (with_reducible exact ih12 _ _ _ _ _ _ _ _ _ _ _ _)
      | (with_reducible exact ih13 _ _ _ _ _ _ _ _ _ _ _ _ _ _ _ _ _ _)
      | (with_reducible exact impl_FewestMoves.mono _ _ _)
      | (with_reducible exact impl_MiddleOf.mono _ _ _)
      | (with_reducible exact impl_MovesText.mono _ _)
      | (with_reducible exact impl_MovesToClear.mono _ _)
      | (with_reducible exact impl_NextMove.mono _ _ _)
      | (with_reducible exact impl_NumberOfState.mono _ _)
      | (with_reducible exact impl_OtherEnd.mono _ _)
      | (with_reducible exact impl_ParseMoves.mono _ _)
      | (with_reducible exact impl_PlayMoves.mono _ _ _)
      | (with_reducible exact impl_StatesBetween.mono _ _ _)
      | (with_reducible exact impl_TimesMoved.mono _ _ _)
      | (with_reducible exact impl_WayTo.mono _ _ _)
      | (with_reducible exact laws_ySame.mono _ _ _)
      | (with_reducible exact laws_ySum.mono _ _)
      | (with_reducible exact laws_yTexts.mono _ _ _)
      | (with_reducible exact spec_AllOn.mono _ _)
      | (with_reducible exact spec_FewestMoves.mono _ _ _)
      | (with_reducible exact spec_MiddleOf.mono _ _ _)
      | (with_reducible exact spec_MovesText.mono _ _)
      | (with_reducible exact spec_MovesToClear.mono _ _)
      | (with_reducible exact spec_NextMove.mono _ _ _)
      | (with_reducible exact spec_OtherEnd.mono _ _)
      | (with_reducible exact spec_ParseMoves.mono _ _)
      | (with_reducible exact spec_StatesBetween.mono _ _ _)
      | (with_reducible exact spec_TimesMoved.mono _ _ _)
      | (with_reducible exact spec_WayTo.mono _ _ _)
      | (with_reducible exact LeO.refl _)
      | (with_reducible exact LeO.none _)
      | (with_reducible refine LeO.ite ?_ ?_)
      | (with_reducible refine LeO.bind ?_ (fun _ => ?_))
      | exact ih0 _ _ _ _ _ _
      | exact ih1 _ _ _ _ _ _ _ _ _ _ _ _ _ _ _ _
      | exact ih2 _ _ _ _ _ _ _ _ _ _ _ _ _
      | exact ih3 _ _ _ _ _ _ _ _
      | exact ih4 _ _ _
      | exact ih5 _ _ _ _ _ _ _ _ _ _ _ _
      | exact ih6 _ _ _ _ _ _
      | exact ih7 _ _ _ _
      | exact ih8 _ _ _ _ _
      | exact ih9 _ _ _ _ _
      | exact ih10 _ _ _ _ _ _
      | exact ih11 _ _ _ _ _ _ _ _ _ _ _
      | exact ih12 _ _ _ _ _ _ _ _ _ _ _ _
      | exact ih13 _ _ _ _ _ _ _ _ _ _ _ _ _ _ _ _ _ _
      | exact impl_FewestMoves.mono _ _ _
      | exact impl_MiddleOf.mono _ _ _
      | exact impl_MovesText.mono _ _
      | exact impl_MovesToClear.mono _ _
      | exact impl_NextMove.mono _ _ _
      | exact impl_NumberOfState.mono _ _
      | exact impl_OtherEnd.mono _ _
      | exact impl_ParseMoves.mono _ _
      | exact impl_PlayMoves.mono _ _ _
      | exact impl_StatesBetween.mono _ _ _
      | exact impl_TimesMoved.mono _ _ _
      | exact impl_WayTo.mono _ _ _
      | exact laws_ySame.mono _ _ _
      | exact laws_ySum.mono _ _
      | exact laws_yTexts.mono _ _ _
      | exact spec_AllOn.mono _ _
      | exact spec_FewestMoves.mono _ _ _
      | exact spec_MiddleOf.mono _ _ _
      | exact spec_MovesText.mono _ _
      | exact spec_MovesToClear.mono _ _
      | exact spec_NextMove.mono _ _ _
      | exact spec_OtherEnd.mono _ _
      | exact spec_ParseMoves.mono _ _
      | exact spec_StatesBetween.mono _ _ _
      | exact spec_TimesMoved.mono _ _ _
      | exact spec_WayTo.mono _ _ _
      | exact LeO.none _
      | refine LeO.ite ?_ ?_
      | refine LeO.bind ?_ (fun _ => ?_)
    · intro y0 y1 y2 y3 y4 y5
      unfold laws_FnWaysLeadOfAll.j12
      repeat' first
      | (with_reducible exact ih0 _ _ _ _ _ _)
      | (with_reducible exact ih1 _ _ _ _ _ _ _ _ _ _ _ _ _ _ _ _)
      | (with_reducible exact ih2 _ _ _ _ _ _ _ _ _ _ _ _ _)
      | (with_reducible exact ih3 _ _ _ _ _ _ _ _)
      | (with_reducible exact ih4 _ _ _)
      | (with_reducible exact ih5 _ _ _ _ _ _ _ _ _ _ _ _)
      | (with_reducible exact ih6 _ _ _ _ _ _)
      | (with_reducible exact ih7 _ _ _ _)
      | (with_reducible exact ih8 _ _ _ _ _)
      | (with_reducible exact ih9 _ _ _ _ _)
      | (with_reducible exact ih10 _ _ _ _ _ _)
      | (with_reducible exact ih11 _ _ _ _ _ _ _ _ _ _ _)
      | (with_reducible exact ih12 _ _ _ _ _ _ _ _ _ _ _ _)
      | (with_reducible exact ih13 _ _ _ _ _ _ _ _ _ _ _ _ _ _ _ _ _ _)
      | (with_reducible exact impl_FewestMoves.mono _ _ _)
      | (with_reducible exact impl_MiddleOf.mono _ _ _)
      | (with_reducible exact impl_MovesText.mono _ _)
      | (with_reducible exact impl_MovesToClear.mono _ _)
      | (with_reducible exact impl_NextMove.mono _ _ _)
      | (with_reducible exact impl_NumberOfState.mono _ _)
      | (with_reducible exact impl_OtherEnd.mono _ _)
      | (with_reducible exact impl_ParseMoves.mono _ _)
      | (with_reducible exact impl_PlayMoves.mono _ _ _)
      | (with_reducible exact impl_StatesBetween.mono _ _ _)
      | (with_reducible exact impl_TimesMoved.mono _ _ _)
      | (with_reducible exact impl_WayTo.mono _ _ _)
      | (with_reducible exact laws_ySame.mono _ _ _)
      | (with_reducible exact laws_ySum.mono _ _)
      | (with_reducible exact laws_yTexts.mono _ _ _)
      | (with_reducible exact spec_AllOn.mono _ _)
      | (with_reducible exact spec_FewestMoves.mono _ _ _)
      | (with_reducible exact spec_MiddleOf.mono _ _ _)
      | (with_reducible exact spec_MovesText.mono _ _)
      | (with_reducible exact spec_MovesToClear.mono _ _)
      | (with_reducible exact spec_NextMove.mono _ _ _)
      | (with_reducible exact spec_OtherEnd.mono _ _)
      | (with_reducible exact spec_ParseMoves.mono _ _)
      | (with_reducible exact spec_StatesBetween.mono _ _ _)
      | (with_reducible exact spec_TimesMoved.mono _ _ _)
      | (with_reducible exact spec_WayTo.mono _ _ _)
      | (with_reducible exact LeO.refl _)
      | (with_reducible exact LeO.none _)
      | (with_reducible refine LeO.ite ?_ ?_)
      | (with_reducible refine LeO.bind ?_ (fun _ => ?_))
      | exact ih0 _ _ _ _ _ _
      | exact ih1 _ _ _ _ _ _ _ _ _ _ _ _ _ _ _ _
      | exact ih2 _ _ _ _ _ _ _ _ _ _ _ _ _
      | exact ih3 _ _ _ _ _ _ _ _
      | exact ih4 _ _ _
      | exact ih5 _ _ _ _ _ _ _ _ _ _ _ _
      | exact ih6 _ _ _ _ _ _
      | exact ih7 _ _ _ _
      | exact ih8 _ _ _ _ _
      | exact ih9 _ _ _ _ _
      | exact ih10 _ _ _ _ _ _
      | exact ih11 _ _ _ _ _ _ _ _ _ _ _
      | exact ih12 _ _ _ _ _ _ _ _ _ _ _ _
      | exact ih13 _ _ _ _ _ _ _ _ _ _ _ _ _ _ _ _ _ _
      | exact impl_FewestMoves.mono _ _ _
      | exact impl_MiddleOf.mono _ _ _
      | exact impl_MovesText.mono _ _
      | exact impl_MovesToClear.mono _ _
      | exact impl_NextMove.mono _ _ _
      | exact impl_NumberOfState.mono _ _
      | exact impl_OtherEnd.mono _ _
      | exact impl_ParseMoves.mono _ _
      | exact impl_PlayMoves.mono _ _ _
      | exact impl_StatesBetween.mono _ _ _
      | exact impl_TimesMoved.mono _ _ _
      | exact impl_WayTo.mono _ _ _
      | exact laws_ySame.mono _ _ _
      | exact laws_ySum.mono _ _
      | exact laws_yTexts.mono _ _ _
      | exact spec_AllOn.mono _ _
      | exact spec_FewestMoves.mono _ _ _
      | exact spec_MiddleOf.mono _ _ _
      | exact spec_MovesText.mono _ _
      | exact spec_MovesToClear.mono _ _
      | exact spec_NextMove.mono _ _ _
      | exact spec_OtherEnd.mono _ _
      | exact spec_ParseMoves.mono _ _
      | exact spec_StatesBetween.mono _ _ _
      | exact spec_TimesMoved.mono _ _ _
      | exact spec_WayTo.mono _ _ _
      | exact LeO.none _
      | refine LeO.ite ?_ ?_
      | refine LeO.bind ?_ (fun _ => ?_)
    · intro y0 y1 y2 y3
      unfold laws_FnWaysLeadOfAll.j13
      repeat' first
      | (with_reducible exact ih0 _ _ _ _ _ _)
      | (with_reducible exact ih1 _ _ _ _ _ _ _ _ _ _ _ _ _ _ _ _)
      | (with_reducible exact ih2 _ _ _ _ _ _ _ _ _ _ _ _ _)
      | (with_reducible exact ih3 _ _ _ _ _ _ _ _)
      | (with_reducible exact ih4 _ _ _)
      | (with_reducible exact ih5 _ _ _ _ _ _ _ _ _ _ _ _)
      | (with_reducible exact ih6 _ _ _ _ _ _)
      | (with_reducible exact ih7 _ _ _ _)
      | (with_reducible exact ih8 _ _ _ _ _)
      | (with_reducible exact ih9 _ _ _ _ _)
      | (with_reducible exact ih10 _ _ _ _ _ _)
      | (with_reducible exact ih11 _ _ _ _ _ _ _ _ _ _ _)
      | (with_reducible exact ih12 _ _ _ _ _ _ _ _ _ _ _ _)
      | (with_reducible exact ih13 _ _ _ _ _ _ _ _ _ _ _ _ _ _ _ _ _ _)
      | (with_reducible exact impl_FewestMoves.mono _ _ _)
      | (with_reducible exact impl_MiddleOf.mono _ _ _)
      | (with_reducible exact impl_MovesText.mono _ _)
      | (with_reducible exact impl_MovesToClear.mono _ _)
      | (with_reducible exact impl_NextMove.mono _ _ _)
      | (with_reducible exact impl_NumberOfState.mono _ _)
      | (with_reducible exact impl_OtherEnd.mono _ _)
      | (with_reducible exact impl_ParseMoves.mono _ _)
      | (with_reducible exact impl_PlayMoves.mono _ _ _)
      | (with_reducible exact impl_StatesBetween.mono _ _ _)
      | (with_reducible exact impl_TimesMoved.mono _ _ _)
      | (with_reducible exact impl_WayTo.mono _ _ _)
      | (with_reducible exact laws_ySame.mono _ _ _)
      | (with_reducible exact laws_ySum.mono _ _)
      | (with_reducible exact laws_yTexts.mono _ _ _)
      | (with_reducible exact spec_AllOn.mono _ _)
      | (with_reducible exact spec_FewestMoves.mono _ _ _)
      | (with_reducible exact spec_MiddleOf.mono _ _ _)
      | (with_reducible exact spec_MovesText.mono _ _)
      | (with_reducible exact spec_MovesToClear.mono _ _)
      | (with_reducible exact spec_NextMove.mono _ _ _)
      | (with_reducible exact spec_OtherEnd.mono _ _)
      | (with_reducible exact spec_ParseMoves.mono _ _)
      | (with_reducible exact spec_StatesBetween.mono _ _ _)
      | (with_reducible exact spec_TimesMoved.mono _ _ _)
      | (with_reducible exact spec_WayTo.mono _ _ _)
      | (with_reducible exact LeO.refl _)
      | (with_reducible exact LeO.none _)
      | (with_reducible refine LeO.ite ?_ ?_)
      | (with_reducible refine LeO.bind ?_ (fun _ => ?_))
      | exact ih0 _ _ _ _ _ _
      | exact ih1 _ _ _ _ _ _ _ _ _ _ _ _ _ _ _ _
      | exact ih2 _ _ _ _ _ _ _ _ _ _ _ _ _
      | exact ih3 _ _ _ _ _ _ _ _
      | exact ih4 _ _ _
      | exact ih5 _ _ _ _ _ _ _ _ _ _ _ _
      | exact ih6 _ _ _ _ _ _
      | exact ih7 _ _ _ _
      | exact ih8 _ _ _ _ _
      | exact ih9 _ _ _ _ _
      | exact ih10 _ _ _ _ _ _
      | exact ih11 _ _ _ _ _ _ _ _ _ _ _
      | exact ih12 _ _ _ _ _ _ _ _ _ _ _ _
      | exact ih13 _ _ _ _ _ _ _ _ _ _ _ _ _ _ _ _ _ _
      | exact impl_FewestMoves.mono _ _ _
      | exact impl_MiddleOf.mono _ _ _
      | exact impl_MovesText.mono _ _
      | exact impl_MovesToClear.mono _ _
      | exact impl_NextMove.mono _ _ _
      | exact impl_NumberOfState.mono _ _
      | exact impl_OtherEnd.mono _ _
      | exact impl_ParseMoves.mono _ _
      | exact impl_PlayMoves.mono _ _ _
      | exact impl_StatesBetween.mono _ _ _
      | exact impl_TimesMoved.mono _ _ _
      | exact impl_WayTo.mono _ _ _
      | exact laws_ySame.mono _ _ _
      | exact laws_ySum.mono _ _
      | exact laws_yTexts.mono _ _ _
      | exact spec_AllOn.mono _ _
      | exact spec_FewestMoves.mono _ _ _
      | exact spec_MiddleOf.mono _ _ _
      | exact spec_MovesText.mono _ _
      | exact spec_MovesToClear.mono _ _
      | exact spec_NextMove.mono _ _ _
      | exact spec_OtherEnd.mono _ _
      | exact spec_ParseMoves.mono _ _
      | exact spec_StatesBetween.mono _ _ _
      | exact spec_TimesMoved.mono _ _ _
      | exact spec_WayTo.mono _ _ _
      | exact LeO.none _
      | refine LeO.ite ?_ ?_
      | refine LeO.bind ?_ (fun _ => ?_)
    · intro y0 y1 y2 y3 y4
      unfold laws_FnWaysLeadOfAll.j7
      repeat' first
      | (with_reducible exact ih0 _ _ _ _ _ _)
      | (with_reducible exact ih1 _ _ _ _ _ _ _ _ _ _ _ _ _ _ _ _)
      | (with_reducible exact ih2 _ _ _ _ _ _ _ _ _ _ _ _ _)
      | (with_reducible exact ih3 _ _ _ _ _ _ _ _)
      | (with_reducible exact ih4 _ _ _)
      | (with_reducible exact ih5 _ _ _ _ _ _ _ _ _ _ _ _)
      | (with_reducible exact ih6 _ _ _ _ _ _)
      | (with_reducible exact ih7 _ _ _ _)
      | (with_reducible exact ih8 _ _ _ _ _)
      | (with_reducible exact ih9 _ _ _ _ _)
      | (with_reducible exact ih10 _ _ _ _ _ _)
      | (with_reducible exact ih11 _ _ _ _ _ _ _ _ _ _ _)
      | (with_reducible exact ih12 _ _ _ _ _ _ _ _ _ _ _ _)
      | (with_reducible exact ih13 _ _ _ _ _ _ _ _ _ _ _ _ _ _ _ _ _ _)
      | (with_reducible exact impl_FewestMoves.mono _ _ _)
      | (with_reducible exact impl_MiddleOf.mono _ _ _)
      | (with_reducible exact impl_MovesText.mono _ _)
      | (with_reducible exact impl_MovesToClear.mono _ _)
      | (with_reducible exact impl_NextMove.mono _ _ _)
      | (with_reducible exact impl_NumberOfState.mono _ _)
      | (with_reducible exact impl_OtherEnd.mono _ _)
      | (with_reducible exact impl_ParseMoves.mono _ _)
      | (with_reducible exact impl_PlayMoves.mono _ _ _)
      | (with_reducible exact impl_StatesBetween.mono _ _ _)
      | (with_reducible exact impl_TimesMoved.mono _ _ _)
      | (with_reducible exact impl_WayTo.mono _ _ _)
      | (with_reducible exact laws_ySame.mono _ _ _)
      | (with_reducible exact laws_ySum.mono _ _)
      | (with_reducible exact laws_yTexts.mono _ _ _)
      | (with_reducible exact spec_AllOn.mono _ _)
      | (with_reducible exact spec_FewestMoves.mono _ _ _)
      | (with_reducible exact spec_MiddleOf.mono _ _ _)
      | (with_reducible exact spec_MovesText.mono _ _)
      | (with_reducible exact spec_MovesToClear.mono _ _)
      | (with_reducible exact spec_NextMove.mono _ _ _)
      | (with_reducible exact spec_OtherEnd.mono _ _)
      | (with_reducible exact spec_ParseMoves.mono _ _)
      | (with_reducible exact spec_StatesBetween.mono _ _ _)
      | (with_reducible exact spec_TimesMoved.mono _ _ _)
      | (with_reducible exact spec_WayTo.mono _ _ _)
      | (with_reducible exact LeO.refl _)
      | (with_reducible exact LeO.none _)
      | (with_reducible refine LeO.ite ?_ ?_)
      | (with_reducible refine LeO.bind ?_ (fun _ => ?_))
      | exact ih0 _ _ _ _ _ _
      | exact ih1 _ _ _ _ _ _ _ _ _ _ _ _ _ _ _ _
      | exact ih2 _ _ _ _ _ _ _ _ _ _ _ _ _
      | exact ih3 _ _ _ _ _ _ _ _
      | exact ih4 _ _ _
      | exact ih5 _ _ _ _ _ _ _ _ _ _ _ _
      | exact ih6 _ _ _ _ _ _
      | exact ih7 _ _ _ _
      | exact ih8 _ _ _ _ _
      | exact ih9 _ _ _ _ _
      | exact ih10 _ _ _ _ _ _
      | exact ih11 _ _ _ _ _ _ _ _ _ _ _
      | exact ih12 _ _ _ _ _ _ _ _ _ _ _ _
      | exact ih13 _ _ _ _ _ _ _ _ _ _ _ _ _ _ _ _ _ _
      | exact impl_FewestMoves.mono _ _ _
      | exact impl_MiddleOf.mono _ _ _
      | exact impl_MovesText.mono _ _
      | exact impl_MovesToClear.mono _ _
      | exact impl_NextMove.mono _ _ _
      | exact impl_NumberOfState.mono _ _
      | exact impl_OtherEnd.mono _ _
      | exact impl_ParseMoves.mono _ _
      | exact impl_PlayMoves.mono _ _ _
      | exact impl_StatesBetween.mono _ _ _
      | exact impl_TimesMoved.mono _ _ _
      | exact impl_WayTo.mono _ _ _
      | exact laws_ySame.mono _ _ _
      | exact laws_ySum.mono _ _
      | exact laws_yTexts.mono _ _ _
      | exact spec_AllOn.mono _ _
      | exact spec_FewestMoves.mono _ _ _
      | exact spec_MiddleOf.mono _ _ _
      | exact spec_MovesText.mono _ _
      | exact spec_MovesToClear.mono _ _
      | exact spec_NextMove.mono _ _ _
      | exact spec_OtherEnd.mono _ _
      | exact spec_ParseMoves.mono _ _
      | exact spec_StatesBetween.mono _ _ _
      | exact spec_TimesMoved.mono _ _ _
      | exact spec_WayTo.mono _ _ _
      | exact LeO.none _
      | refine LeO.ite ?_ ?_
      | refine LeO.bind ?_ (fun _ => ?_)
    · intro y0 y1 y2 y3 y4
      unfold laws_FnWaysLeadOfAll.l2
      repeat' first
      | (with_reducible exact ih0 _ _ _ _ _ _)
      | (with_reducible exact ih1 _ _ _ _ _ _ _ _ _ _ _ _ _ _ _ _)
      | (with_reducible exact ih2 _ _ _ _ _ _ _ _ _ _ _ _ _)
      | (with_reducible exact ih3 _ _ _ _ _ _ _ _)
      | (with_reducible exact ih4 _ _ _)
      | (with_reducible exact ih5 _ _ _ _ _ _ _ _ _ _ _ _)
      | (with_reducible exact ih6 _ _ _ _ _ _)
      | (with_reducible exact ih7 _ _ _ _)
      | (with_reducible exact ih8 _ _ _ _ _)
      | (with_reducible exact ih9 _ _ _ _ _)
      | (with_reducible exact ih10 _ _ _ _ _ _)
      | (with_reducible exact ih11 _ _ _ _ _ _ _ _ _ _ _)
      | (with_reducible exact ih12 _ _ _ _ _ _ _ _ _ _ _ _)
      | (with_reducible exact ih13 _ _ _ _ _ _ _ _ _ _ _ _ _ _ _ _ _ _)
      | (with_reducible exact impl_FewestMoves.mono _ _ _)
      | (with_reducible exact impl_MiddleOf.mono _ _ _)
      | (with_reducible exact impl_MovesText.mono _ _)
      | (with_reducible exact impl_MovesToClear.mono _ _)
      | (with_reducible exact impl_NextMove.mono _ _ _)
      | (with_reducible exact impl_NumberOfState.mono _ _)
      | (with_reducible exact impl_OtherEnd.mono _ _)
      | (with_reducible exact impl_ParseMoves.mono _ _)
      | (with_reducible exact impl_PlayMoves.mono _ _ _)
      | (with_reducible exact impl_StatesBetween.mono _ _ _)
      | (with_reducible exact impl_TimesMoved.mono _ _ _)
      | (with_reducible exact impl_WayTo.mono _ _ _)
      | (with_reducible exact laws_ySame.mono _ _ _)
      | (with_reducible exact laws_ySum.mono _ _)
      | (with_reducible exact laws_yTexts.mono _ _ _)
      | (with_reducible exact spec_AllOn.mono _ _)
      | (with_reducible exact spec_FewestMoves.mono _ _ _)
      | (with_reducible exact spec_MiddleOf.mono _ _ _)
      | (with_reducible exact spec_MovesText.mono _ _)
      | (with_reducible exact spec_MovesToClear.mono _ _)
      | (with_reducible exact spec_NextMove.mono _ _ _)
      | (with_reducible exact spec_OtherEnd.mono _ _)
      | (with_reducible exact spec_ParseMoves.mono _ _)
      | (with_reducible exact spec_StatesBetween.mono _ _ _)
      | (with_reducible exact spec_TimesMoved.mono _ _ _)
      | (with_reducible exact spec_WayTo.mono _ _ _)
      | (with_reducible exact LeO.refl _)
      | (with_reducible exact LeO.none _)
      | (with_reducible refine LeO.ite ?_ ?_)
      | (with_reducible refine LeO.bind ?_ (fun _ => ?_))
      | exact ih0 _ _ _ _ _ _
      | exact ih1 _ _ _ _ _ _ _ _ _ _ _ _ _ _ _ _
      | exact ih2 _ _ _ _ _ _ _ _ _ _ _ _ _
      | exact ih3 _ _ _ _ _ _ _ _
      | exact ih4 _ _ _
      | exact ih5 _ _ _ _ _ _ _ _ _ _ _ _
      | exact ih6 _ _ _ _ _ _
      | exact ih7 _ _ _ _
      | exact ih8 _ _ _ _ _
      | exact ih9 _ _ _ _ _
      | exact ih10 _ _ _ _ _ _
      | exact ih11 _ _ _ _ _ _ _ _ _ _ _
      | exact ih12 _ _ _ _ _ _ _ _ _ _ _ _
      | exact ih13 _ _ _ _ _ _ _ _ _ _ _ _ _ _ _ _ _ _
      | exact impl_FewestMoves.mono _ _ _
      | exact impl_MiddleOf.mono _ _ _
      | exact impl_MovesText.mono _ _
      | exact impl_MovesToClear.mono _ _
      | exact impl_NextMove.mono _ _ _
      | exact impl_NumberOfState.mono _ _
      | exact impl_OtherEnd.mono _ _
      | exact impl_ParseMoves.mono _ _
      | exact impl_PlayMoves.mono _ _ _
      | exact impl_StatesBetween.mono _ _ _
      | exact impl_TimesMoved.mono _ _ _
      | exact impl_WayTo.mono _ _ _
      | exact laws_ySame.mono _ _ _
      | exact laws_ySum.mono _ _
      | exact laws_yTexts.mono _ _ _
      | exact spec_AllOn.mono _ _
      | exact spec_FewestMoves.mono _ _ _
      | exact spec_MiddleOf.mono _ _ _
      | exact spec_MovesText.mono _ _
      | exact spec_MovesToClear.mono _ _
      | exact spec_NextMove.mono _ _ _
      | exact spec_OtherEnd.mono _ _
      | exact spec_ParseMoves.mono _ _
      | exact spec_StatesBetween.mono _ _ _
      | exact spec_TimesMoved.mono _ _ _
      | exact spec_WayTo.mono _ _ _
      | exact LeO.none _
      | refine LeO.ite ?_ ?_
      | refine LeO.bind ?_ (fun _ => ?_)
    · intro y0 y1 y2 y3 y4 y5
      unfold laws_FnWaysLeadOfAll.j9
      repeat' first
      | (with_reducible exact ih0 _ _ _ _ _ _)
      | (with_reducible exact ih1 _ _ _ _ _ _ _ _ _ _ _ _ _ _ _ _)
      | (with_reducible exact ih2 _ _ _ _ _ _ _ _ _ _ _ _ _)
      | (with_reducible exact ih3 _ _ _ _ _ _ _ _)
      | (with_reducible exact ih4 _ _ _)
      | (with_reducible exact ih5 _ _ _ _ _ _ _ _ _ _ _ _)
      | (with_reducible exact ih6 _ _ _ _ _ _)
      | (with_reducible exact ih7 _ _ _ _)
      | (with_reducible exact ih8 _ _ _ _ _)
      | (with_reducible exact ih9 _ _ _ _ _)
      | (with_reducible exact ih10 _ _ _ _ _ _)
      | (with_reducible exact ih11 _ _ _ _ _ _ _ _ _ _ _)
      | (with_reducible exact ih12 _ _ _ _ _ _ _ _ _ _ _ _)
      | (with_reducible exact ih13 _ _ _ _ _ _ _ _ _ _ _ _ _ _ _ _ _ _)
      | (with_reducible exact impl_FewestMoves.mono _ _ _)
      | (with_reducible exact impl_MiddleOf.mono _ _ _)
      | (with_reducible exact impl_MovesText.mono _ _)
      | (with_reducible exact impl_MovesToClear.mono _ _)
      | (with_reducible exact impl_NextMove.mono _ _ _)
      | (with_reducible exact impl_NumberOfState.mono _ _)
      | (with_reducible exact impl_OtherEnd.mono _ _)
      | (with_reducible exact impl_ParseMoves.mono _ _)
      | (with_reducible exact impl_PlayMoves.mono _ _ _)
      | (with_reducible exact impl_StatesBetween.mono _ _ _)
      | (with_reducible exact impl_TimesMoved.mono _ _ _)
      | (with_reducible exact impl_WayTo.mono _ _ _)
      | (with_reducible exact laws_ySame.mono _ _ _)
      | (with_reducible exact laws_ySum.mono _ _)
      | (with_reducible exact laws_yTexts.mono _ _ _)
      | (with_reducible exact spec_AllOn.mono _ _)
      | (with_reducible exact spec_FewestMoves.mono _ _ _)
      | (with_reducible exact spec_MiddleOf.mono _ _ _)
      | (with_reducible exact spec_MovesText.mono _ _)
      | (with_reducible exact spec_MovesToClear.mono _ _)
      | (with_reducible exact spec_NextMove.mono _ _ _)
      | (with_reducible exact spec_OtherEnd.mono _ _)
      | (with_reducible exact spec_ParseMoves.mono _ _)
      | (with_reducible exact spec_StatesBetween.mono _ _ _)
      | (with_reducible exact spec_TimesMoved.mono _ _ _)
      | (with_reducible exact spec_WayTo.mono _ _ _)
      | (with_reducible exact LeO.refl _)
      | (with_reducible exact LeO.none _)
      | (with_reducible refine LeO.ite ?_ ?_)
      | (with_reducible refine LeO.bind ?_ (fun _ => ?_))
      | exact ih0 _ _ _ _ _ _
      | exact ih1 _ _ _ _ _ _ _ _ _ _ _ _ _ _ _ _
      | exact ih2 _ _ _ _ _ _ _ _ _ _ _ _ _
      | exact ih3 _ _ _ _ _ _ _ _
      | exact ih4 _ _ _
      | exact ih5 _ _ _ _ _ _ _ _ _ _ _ _
      | exact ih6 _ _ _ _ _ _
      | exact ih7 _ _ _ _
      | exact ih8 _ _ _ _ _
      | exact ih9 _ _ _ _ _
      | exact ih10 _ _ _ _ _ _
      | exact ih11 _ _ _ _ _ _ _ _ _ _ _
      | exact ih12 _ _ _ _ _ _ _ _ _ _ _ _
      | exact ih13 _ _ _ _ _ _ _ _ _ _ _ _ _ _ _ _ _ _
      | exact impl_FewestMoves.mono _ _ _
      | exact impl_MiddleOf.mono _ _ _
      | exact impl_MovesText.mono _ _
      | exact impl_MovesToClear.mono _ _
      | exact impl_NextMove.mono _ _ _
      | exact impl_NumberOfState.mono _ _
      | exact impl_OtherEnd.mono _ _
      | exact impl_ParseMoves.mono _ _
      | exact impl_PlayMoves.mono _ _ _
      | exact impl_StatesBetween.mono _ _ _
      | exact impl_TimesMoved.mono _ _ _
      | exact impl_WayTo.mono _ _ _
      | exact laws_ySame.mono _ _ _
      | exact laws_ySum.mono _ _
      | exact laws_yTexts.mono _ _ _
      | exact spec_AllOn.mono _ _
      | exact spec_FewestMoves.mono _ _ _
      | exact spec_MiddleOf.mono _ _ _
      | exact spec_MovesText.mono _ _
      | exact spec_MovesToClear.mono _ _
      | exact spec_NextMove.mono _ _ _
      | exact spec_OtherEnd.mono _ _
      | exact spec_ParseMoves.mono _ _
      | exact spec_StatesBetween.mono _ _ _
      | exact spec_TimesMoved.mono _ _ _
      | exact spec_WayTo.mono _ _ _
      | exact LeO.none _
      | refine LeO.ite ?_ ?_
      | refine LeO.bind ?_ (fun _ => ?_)
    · intro y0 y1 y2 y3 y4 y5 y6 y7 y8 y9 y10
      unfold laws_FnWaysLeadOfAll.j3
      repeat' first
      | (with_reducible exact ih0 _ _ _ _ _ _)
      | (with_reducible exact ih1 _ _ _ _ _ _ _ _ _ _ _ _ _ _ _ _)
      | (with_reducible exact ih2 _ _ _ _ _ _ _ _ _ _ _ _ _)
      | (with_reducible exact ih3 _ _ _ _ _ _ _ _)
      | (with_reducible exact ih4 _ _ _)
      | (with_reducible exact ih5 _ _ _ _ _ _ _ _ _ _ _ _)
      | (with_reducible exact ih6 _ _ _ _ _ _)
      | (with_reducible exact ih7 _ _ _ _)
      | (with_reducible exact ih8 _ _ _ _ _)
      | (with_reducible exact ih9 _ _ _ _ _)
      | (with_reducible exact ih10 _ _ _ _ _ _)
      | (with_reducible exact ih11 _ _ _ _ _ _ _ _ _ _ _)
      | (with_reducible exact ih12 _ _ _ _ _ _ _ _ _ _ _ _)
      | (with_reducible exact ih13 _ _ _ _ _ _ _ _ _ _ _ _ _ _ _ _ _ _)
      | (with_reducible exact impl_FewestMoves.mono _ _ _)
      | (with_reducible exact impl_MiddleOf.mono _ _ _)
      | (with_reducible exact impl_MovesText.mono _ _)
      | (with_reducible exact impl_MovesToClear.mono _ _)
      | (with_reducible exact impl_NextMove.mono _ _ _)
      | (with_reducible exact impl_NumberOfState.mono _ _)
      | (with_reducible exact impl_OtherEnd.mono _ _)
      | (with_reducible exact impl_ParseMoves.mono _ _)
      | (with_reducible exact impl_PlayMoves.mono _ _ _)
      | (with_reducible exact impl_StatesBetween.mono _ _ _)
      | (with_reducible exact impl_TimesMoved.mono _ _ _)
      | (with_reducible exact impl_WayTo.mono _ _ _)
      | (with_reducible exact laws_ySame.mono _ _ _)
      | (with_reducible exact laws_ySum.mono _ _)
      | (with_reducible exact laws_yTexts.mono _ _ _)
      | (with_reducible exact spec_AllOn.mono _ _)
      | (with_reducible exact spec_FewestMoves.mono _ _ _)
      | (with_reducible exact spec_MiddleOf.mono _ _ _)
      | (with_reducible exact spec_MovesText.mono _ _)
      | (with_reducible exact spec_MovesToClear.mono _ _)
      | (with_reducible exact spec_NextMove.mono _ _ _)
      | (with_reducible exact spec_OtherEnd.mono _ _)
      | (with_reducible exact spec_ParseMoves.mono _ _)
      | (with_reducible exact spec_StatesBetween.mono _ _ _)
      | (with_reducible exact spec_TimesMoved.mono _ _ _)
      | (with_reducible exact spec_WayTo.mono _ _ _)
      | (with_reducible exact LeO.refl _)
      | (with_reducible exact LeO.none _)
      | (with_reducible refine LeO.ite ?_ ?_)
      | (with_reducible refine LeO.bind ?_ (fun _ => ?_))
      | exact ih0 _ _ _ _ _ _
      | exact ih1 _ _ _ _ _ _ _ _ _ _ _ _ _ _ _ _
      | exact ih2 _ _ _ _ _ _ _ _ _ _ _ _ _
      | exact ih3 _ _ _ _ _ _ _ _
      | exact ih4 _ _ _
      | exact ih5 _ _ _ _ _ _ _ _ _ _ _ _
      | exact ih6 _ _ _ _ _ _
      | exact ih7 _ _ _ _
      | exact ih8 _ _ _ _ _
      | exact ih9 _ _ _ _ _
      | exact ih10 _ _ _ _ _ _
      | exact ih11 _ _ _ _ _ _ _ _ _ _ _
      | exact ih12 _ _ _ _ _ _ _ _ _ _ _ _
      | exact ih13 _ _ _ _ _ _ _ _ _ _ _ _ _ _ _ _ _ _
      | exact impl_FewestMoves.mono _ _ _
      | exact impl_MiddleOf.mono _ _ _
      | exact impl_MovesText.mono _ _
      | exact impl_MovesToClear.mono _ _
      | exact impl_NextMove.mono _ _ _
      | exact impl_NumberOfState.mono _ _
      | exact impl_OtherEnd.mono _ _
      | exact impl_ParseMoves.mono _ _
      | exact impl_PlayMoves.mono _ _ _
      | exact impl_StatesBetween.mono _ _ _
      | exact impl_TimesMoved.mono _ _ _
      | exact impl_WayTo.mono _ _ _
      | exact laws_ySame.mono _ _ _
      | exact laws_ySum.mono _ _
      | exact laws_yTexts.mono _ _ _
      | exact spec_AllOn.mono _ _
      | exact spec_FewestMoves.mono _ _ _
      | exact spec_MiddleOf.mono _ _ _
      | exact spec_MovesText.mono _ _
      | exact spec_MovesToClear.mono _ _
      | exact spec_NextMove.mono _ _ _
      | exact spec_OtherEnd.mono _ _
      | exact spec_ParseMoves.mono _ _
      | exact spec_StatesBetween.mono _ _ _
      | exact spec_TimesMoved.mono _ _ _
      | exact spec_WayTo.mono _ _ _
      | exact LeO.none _
      | refine LeO.ite ?_ ?_
      | refine LeO.bind ?_ (fun _ => ?_)
    · intro y0 y1 y2 y3 y4 y5 y6 y7 y8 y9 y10 y11
      unfold laws_FnWaysLeadOfAll.l0
      repeat' first
      | (with_reducible exact ih0 _ _ _ _ _ _)
      | (with_reducible exact ih1 _ _ _ _ _ _ _ _ _ _ _ _ _ _ _ _)
      | (with_reducible exact ih2 _ _ _ _ _ _ _ _ _ _ _ _ _)
      | (with_reducible exact ih3 _ _ _ _ _ _ _ _)
      | (with_reducible exact ih4 _ _ _)
      | (with_reducible exact ih5 _ _ _ _ _ _ _ _ _ _ _ _)
      | (with_reducible exact ih6 _ _ _ _ _ _)
      | (with_reducible exact ih7 _ _ _ _)
      | (with_reducible exact ih8 _ _ _ _ _)
      | (with_reducible exact ih9 _ _ _ _ _)
      | (with_reducible exact ih10 _ _ _ _ _ _)
      | (with_reducible exact ih11 _ _ _ _ _ _ _ _ _ _ _)
      | (with_reducible exact ih12 _ _ _ _ _ _ _ _ _ _ _ _)
      | (with_reducible exact ih13 _ _ _ _ _ _ _ _ _ _ _ _ _ _ _ _ _ _)
      | (with_reducible exact impl_FewestMoves.mono _ _ _)
      | (with_reducible exact impl_MiddleOf.mono _ _ _)
      | (with_reducible exact impl_MovesText.mono _ _)
      | (with_reducible exact impl_MovesToClear.mono _ _)
      | (with_reducible exact impl_NextMove.mono _ _ _)
      | (with_reducible exact impl_NumberOfState.mono _ _)
      | (with_reducible exact impl_OtherEnd.mono _ _)
      | (with_reducible exact impl_ParseMoves.mono _ _)
      | (with_reducible exact impl_PlayMoves.mono _ _ _)
      | (with_reducible exact impl_StatesBetween.mono _ _ _)
      | (with_reducible exact impl_TimesMoved.mono _ _ _)
      | (with_reducible exact impl_WayTo.mono _ _ _)
      | (with_reducible exact laws_ySame.mono _ _ _)
      | (with_reducible exact laws_ySum.mono _ _)
      | (with_reducible exact laws_yTexts.mono _ _ _)
      | (with_reducible exact spec_AllOn.mono _ _)
      | (with_reducible exact spec_FewestMoves.mono _ _ _)
      | (with_reducible exact spec_MiddleOf.mono _ _ _)
      | (with_reducible exact spec_MovesText.mono _ _)
      | (with_reducible exact spec_MovesToClear.mono _ _)
      | (with_reducible exact spec_NextMove.mono _ _ _)
      | (with_reducible exact spec_OtherEnd.mono _ _)
      | (with_reducible exact spec_ParseMoves.mono _ _)
      | (with_reducible exact spec_StatesBetween.mono _ _ _)
      | (with_reducible exact spec_TimesMoved.mono _ _ _)
      | (with_reducible exact spec_WayTo.mono _ _ _)
      | (with_reducible exact LeO.refl _)
      | (with_reducible exact LeO.none _)
      | (with_reducible refine LeO.ite ?_ ?_)
      | (with_reducible refine LeO.bind ?_ (fun _ => ?_))
      | exact ih0 _ _ _ _ _ _
      | exact ih1 _ _ _ _ _ _ _ _ _ _ _ _ _ _ _ _
      | exact ih2 _ _ _ _ _ _ _ _ _ _ _ _ _
      | exact ih3 _ _ _ _ _ _ _ _
      | exact ih4 _ _ _
      | exact ih5 _ _ _ _ _ _ _ _ _ _ _ _
      | exact ih6 _ _ _ _ _ _
      | exact ih7 _ _ _ _
      | exact ih8 _ _ _ _ _
      | exact ih9 _ _ _ _ _
      | exact ih10 _ _ _ _ _ _
      | exact ih11 _ _ _ _ _ _ _ _ _ _ _
      | exact ih12 _ _ _ _ _ _ _ _ _ _ _ _
      | exact ih13 _ _ _ _ _ _ _ _ _ _ _ _ _ _ _ _ _ _
      | exact impl_FewestMoves.mono _ _ _
      | exact impl_MiddleOf.mono _ _ _
      | exact impl_MovesText.mono _ _
      | exact impl_MovesToClear.mono _ _
      | exact impl_NextMove.mono _ _ _
      | exact impl_NumberOfState.mono _ _
      | exact impl_OtherEnd.mono _ _
      | exact impl_ParseMoves.mono _ _
      | exact impl_PlayMoves.mono _ _ _
      | exact impl_StatesBetween.mono _ _ _
      | exact impl_TimesMoved.mono _ _ _
      | exact impl_WayTo.mono _ _ _
      | exact laws_ySame.mono _ _ _
      | exact laws_ySum.mono _ _
      | exact laws_yTexts.mono _ _ _
      | exact spec_AllOn.mono _ _
      | exact spec_FewestMoves.mono _ _ _
      | exact spec_MiddleOf.mono _ _ _
      | exact spec_MovesText.mono _ _
      | exact spec_MovesToClear.mono _ _
      | exact spec_NextMove.mono _ _ _
      | exact spec_OtherEnd.mono _ _
      | exact spec_ParseMoves.mono _ _
      | exact spec_StatesBetween.mono _ _ _
      | exact spec_TimesMoved.mono _ _ _
      | exact spec_WayTo.mono _ _ _
      | exact LeO.none _
      | refine LeO.ite ?_ ?_
      | refine LeO.bind ?_ (fun _ => ?_)
    · intro y0 y1 y2 y3 y4 y5 y6 y7 y8 y9 y10 y11 y12 y13 y14 y15 y16 y17
      unfold laws_FnWaysLeadOfAll.l1
      repeat' first
      | (with_reducible exact ih0 _ _ _ _ _ _)
      | (with_reducible exact ih1 _ _ _ _ _ _ _ _ _ _ _ _ _ _ _ _)
      | (with_reducible exact ih2 _ _ _ _ _ _ _ _ _ _ _ _ _)
      | (with_reducible exact ih3 _ _ _ _ _ _ _ _)
      | (with_reducible exact ih4 _ _ _)
      | (with_reducible exact ih5 _ _ _ _ _ _ _ _ _ _ _ _)
      | (with_reducible exact ih6 _ _ _ _ _ _)
      | (with_reducible exact ih7 _ _ _ _)
      | (with_reducible exact ih8 _ _ _ _ _)
      | (with_reducible exact ih9 _ _ _ _ _)
      | (with_reducible exact ih10 _ _ _ _ _ _)
      | (with_reducible exact ih11 _ _ _ _ _ _ _ _ _ _ _)
      | (with_reducible exact ih12 _ _ _ _ _ _ _ _ _ _ _ _)
      | (with_reducible exact ih13 _ _ _ _ _ _ _ _ _ _ _ _ _ _ _ _ _ _)
      | (with_reducible exact impl_FewestMoves.mono _ _ _)
      | (with_reducible exact impl_MiddleOf.mono _ _ _)
      | (with_reducible exact impl_MovesText.mono _ _)
      | (with_reducible exact impl_MovesToClear.mono _ _)
      | (with_reducible exact impl_NextMove.mono _ _ _)
      | (with_reducible exact impl_NumberOfState.mono _ _)
      | (with_reducible exact impl_OtherEnd.mono _ _)
      | (with_reducible exact impl_ParseMoves.mono _ _)
      | (with_reducible exact impl_PlayMoves.mono _ _ _)
      | (with_reducible exact impl_StatesBetween.mono _ _ _)
      | (with_reducible exact impl_TimesMoved.mono _ _ _)
      | (with_reducible exact impl_WayTo.mono _ _ _)
      | (with_reducible exact laws_ySame.mono _ _ _)
      | (with_reducible exact laws_ySum.mono _ _)
      | (with_reducible exact laws_yTexts.mono _ _ _)
      | (with_reducible exact spec_AllOn.mono _ _)
      | (with_reducible exact spec_FewestMoves.mono _ _ _)
      | (with_reducible exact spec_MiddleOf.mono _ _ _)
      | (with_reducible exact spec_MovesText.mono _ _)
      | (with_reducible exact spec_MovesToClear.mono _ _)
      | (with_reducible exact spec_NextMove.mono _ _ _)
      | (with_reducible exact spec_OtherEnd.mono _ _)
      | (with_reducible exact spec_ParseMoves.mono _ _)
      | (with_reducible exact spec_StatesBetween.mono _ _ _)
      | (with_reducible exact spec_TimesMoved.mono _ _ _)
      | (with_reducible exact spec_WayTo.mono _ _ _)
      | (with_reducible exact LeO.refl _)
      | (with_reducible exact LeO.none _)
      | (with_reducible refine LeO.ite ?_ ?_)
      | (with_reducible refine LeO.bind ?_ (fun _ => ?_))
      | exact ih0 _ _ _ _ _ _
      | exact ih1 _ _ _ _ _ _ _ _ _ _ _ _ _ _ _ _
      | exact ih2 _ _ _ _ _ _ _ _ _ _ _ _ _
      | exact ih3 _ _ _ _ _ _ _ _
      | exact ih4 _ _ _
      | exact ih5 _ _ _ _ _ _ _ _ _ _ _ _
      | exact ih6 _ _ _ _ _ _
      | exact ih7 _ _ _ _
      | exact ih8 _ _ _ _ _
      | exact ih9 _ _ _ _ _
      | exact ih10 _ _ _ _ _ _
      | exact ih11 _ _ _ _ _ _ _ _ _ _ _
      | exact ih12 _ _ _ _ _ _ _ _ _ _ _ _
      | exact ih13 _ _ _ _ _ _ _ _ _ _ _ _ _ _ _ _ _ _
      | exact impl_FewestMoves.mono _ _ _
      | exact impl_MiddleOf.mono _ _ _
      | exact impl_MovesText.mono _ _
      | exact impl_MovesToClear.mono _ _
      | exact impl_NextMove.mono _ _ _
      | exact impl_NumberOfState.mono _ _
      | exact impl_OtherEnd.mono _ _
      | exact impl_ParseMoves.mono _ _
      | exact impl_PlayMoves.mono _ _ _
      | exact impl_StatesBetween.mono _ _ _
      | exact impl_TimesMoved.mono _ _ _
      | exact impl_WayTo.mono _ _ _
      | exact laws_ySame.mono _ _ _
      | exact laws_ySum.mono _ _
      | exact laws_yTexts.mono _ _ _
      | exact spec_AllOn.mono _ _
      | exact spec_FewestMoves.mono _ _ _
      | exact spec_MiddleOf.mono _ _ _
      | exact spec_MovesText.mono _ _
      | exact spec_MovesToClear.mono _ _
      | exact spec_NextMove.mono _ _ _
      | exact spec_OtherEnd.mono _ _
      | exact spec_ParseMoves.mono _ _
      | exact spec_StatesBetween.mono _ _ _
      | exact spec_TimesMoved.mono _ _ _
      | exact spec_WayTo.mono _ _ _
      | exact LeO.none _
      | refine LeO.ite ?_ ?_
      | refine LeO.bind ?_ (fun _ => ?_)
theorem laws_FnWaysLeadOfAll.mono : ∀ a0 a1 a2 a3 a4 k, LeO (laws_FnWaysLeadOfAll.f k a0 a1 a2 a3 a4) (laws_FnWaysLeadOfAll.f (k + 1) a0 a1 a2 a3 a4) := by
  intro a0 a1 a2 a3 a4 k
  obtain ⟨ih0, ih1, ih2, ih3, ih4, ih5, ih6, ih7, ih8, ih9, ih10, ih11, ih12, ih13⟩ := laws_FnWaysLeadOfAll.mono_l k
  unfold laws_FnWaysLeadOfAll.f
  repeat' first
      | (with_reducible exact ih0 _ _ _ _ _ _)
      | (with_reducible exact ih1 _ _ _ _ _ _ _ _ _ _ _ _ _ _ _ _)
      | (with_reducible exact ih2 _ _ _ _ _ _ _ _ _ _ _ _ _)
      | (with_reducible exact ih3 _ _ _ _ _ _ _ _)
      | (with_reducible exact ih4 _ _ _)
      | (with_reducible exact ih5 _ _ _ _ _ _ _ _ _ _ _ _)
      | (with_reducible exact ih6 _ _ _ _ _ _)
      | (with_reducible exact ih7 _ _ _ _)
      | (with_reducible exact ih8 _ _ _ _ _)
      | (with_reducible exact ih9 _ _ _ _ _)
      | (with_reducible exact ih10 _ _ _ _ _ _)
      | (with_reducible exact ih11 _ _ _ _ _ _ _ _ _ _ _)
      | (with_reducible exact ih12 _ _ _ _ _ _ _ _ _ _ _ _)
      | (with_reducible exact ih13 _ _ _ _ _ _ _ _ _ _ _ _ _ _ _ _ _ _)
      | (with_reducible exact impl_FewestMoves.mono _ _ _)
      | (with_reducible exact impl_MiddleOf.mono _ _ _)
      | (with_reducible exact impl_MovesText.mono _ _)
      | (with_reducible exact impl_MovesToClear.mono _ _)
      | (with_reducible exact impl_NextMove.mono _ _ _)
      | (with_reducible exact impl_NumberOfState.mono _ _)
      | (with_reducible exact impl_OtherEnd.mono _ _)
      | (with_reducible exact impl_ParseMoves.mono _ _)
      | (with_reducible exact impl_PlayMoves.mono _ _ _)
      | (with_reducible exact impl_StatesBetween.mono _ _ _)
      | (with_reducible exact impl_TimesMoved.mono _ _ _)
      | (with_reducible exact impl_WayTo.mono _ _ _)
      | (with_reducible exact laws_ySame.mono _ _ _)
      | (with_reducible exact laws_ySum.mono _ _)
      | (with_reducible exact laws_yTexts.mono _ _ _)
      | (with_reducible exact spec_AllOn.mono _ _)
      | (with_reducible exact spec_FewestMoves.mono _ _ _)
      | (with_reducible exact spec_MiddleOf.mono _ _ _)
      | (with_reducible exact spec_MovesText.mono _ _)
      | (with_reducible exact spec_MovesToClear.mono _ _)
      | (with_reducible exact spec_NextMove.mono _ _ _)
      | (with_reducible exact spec_OtherEnd.mono _ _)
      | (with_reducible exact spec_ParseMoves.mono _ _)
      | (with_reducible exact spec_StatesBetween.mono _ _ _)
      | (with_reducible exact spec_TimesMoved.mono _ _ _)
      | (with_reducible exact spec_WayTo.mono _ _ _)
      | (with_reducible exact LeO.refl _)
      | (with_reducible exact LeO.none _)
      | (with_reducible refine LeO.ite ?_ ?_)
      | (with_reducible refine LeO.bind ?_ (fun _ => ?_))
      | exact ih0 _ _ _ _ _ _
      | exact ih1 _ _ _ _ _ _ _ _ _ _ _ _ _ _ _ _
      | exact ih2 _ _ _ _ _ _ _ _ _ _ _ _ _
      | exact ih3 _ _ _ _ _ _ _ _
      | exact ih4 _ _ _
      | exact ih5 _ _ _ _ _ _ _ _ _ _ _ _
      | exact ih6 _ _ _ _ _ _
      | exact ih7 _ _ _ _
      | exact ih8 _ _ _ _ _
      | exact ih9 _ _ _ _ _
      | exact ih10 _ _ _ _ _ _
      | exact ih11 _ _ _ _ _ _ _ _ _ _ _
      | exact ih12 _ _ _ _ _ _ _ _ _ _ _ _
      | exact ih13 _ _ _ _ _ _ _ _ _ _ _ _ _ _ _ _ _ _
      | exact impl_FewestMoves.mono _ _ _
      | exact impl_MiddleOf.mono _ _ _
      | exact impl_MovesText.mono _ _
      | exact impl_MovesToClear.mono _ _
      | exact impl_NextMove.mono _ _ _
      | exact impl_NumberOfState.mono _ _
      | exact impl_OtherEnd.mono _ _
      | exact impl_ParseMoves.mono _ _
      | exact impl_PlayMoves.mono _ _ _
      | exact impl_StatesBetween.mono _ _ _
      | exact impl_TimesMoved.mono _ _ _
      | exact impl_WayTo.mono _ _ _
      | exact laws_ySame.mono _ _ _
      | exact laws_ySum.mono _ _
      | exact laws_yTexts.mono _ _ _
      | exact spec_AllOn.mono _ _
      | exact spec_FewestMoves.mono _ _ _
      | exact spec_MiddleOf.mono _ _ _
      | exact spec_MovesText.mono _ _
      | exact spec_MovesToClear.mono _ _
      | exact spec_NextMove.mono _ _ _
      | exact spec_OtherEnd.mono _ _
      | exact spec_ParseMoves.mono _ _
      | exact spec_StatesBetween.mono _ _ _
      | exact spec_TimesMoved.mono _ _ _
      | exact spec_WayTo.mono _ _ _
      | exact LeO.none _
      | refine LeO.ite ?_ ?_
      | refine LeO.bind ?_ (fun _ => ?_)
def laws_FnWaysLeadOfAll.T47 : Bool × List (List Nat × List Nat) := (true, [([], []), ([], []), ([1], [1]), ([0, 2], [0, 2]), ([3], [3]), ([], []), ([], []), ([5, 6], [5, 6]), ([7], [7]), ([4, 8], [4, 8]), ([9], [9]), ([10], [10]), ([10], [10]), ([11, 9, 0, 1, 2, 3, 4, 5, 6, 7, 8, 9, 10, 11], [11]), ([12, 13, 0, 1, 2, 3, 4, 5, 6, 7, 8, 9, 10, 11, 12, 13], [12])])
def laws_FnWaysLeadOfAll.B47 : List Nat := [0, 0, 2, 7, 15, 0, 0, 96, 224, 511, 1023, 2047, 2047, 4095, 16383]
theorem laws_FnWaysLeadOfAll.tab47 : rtab .any (opsOf Tryd.f3 47) = laws_FnWaysLeadOfAll.T47 := by kernel_rfl
theorem laws_FnWaysLeadOfAll.bits47 : waitsOk laws_FnWaysLeadOfAll.T47.2 laws_FnWaysLeadOfAll.B47 = true := by kernel_rfl
def laws_FnWaysLeadOfAll.Pure : Prop := ∀ (a0 : ByteArray) (a1 : ByteArray) (a2 : Int) (l3 : List Int) (a4 : ByteArray), a0.size ≤ 140737488351232 → a1.size ≤ 140737488351232 → (Lit.int .i64 a2).wf = true → l3.length ≤ maxLen → l3.length * 8 ≤ 140737488351232 → (∀ x ∈ l3, (Lit.int .i64 x).wf = true) → a4.size ≤ 140737488351232 → ∃ k, laws_FnWaysLeadOfAll.f k a0 a1 a2 l3 a4 = some true
/-- what is left open, told apart from what holds -/
structure Hole (P : Prop) : Prop where mk :: (out : P)
abbrev o_ : Bool := false
abbrev i_ : Bool := true
/-- a frame in which the marked slots hold whatever f says -/
def maskF : List Bool → List Value → (Nat → Value) → Nat → List Value
  | [], l, _, _ => l
  | _ :: _, [], _, _ => []
  | true :: bs, _ :: l, f, i => f i :: maskF bs l f (i + 1)
  | false :: bs, x :: l, f, i => x :: maskF bs l f (i + 1)
/-- the frame l, its marked slots out of l' -/
def mergeF : List Bool → List Value → List Value → List Value
  | [], l, _ => l
  | _ :: _, [], _ => []
  | _ :: _, x :: l, [] => x :: l
  | true :: bs, _ :: l, y :: l' => y :: mergeF bs l l'
  | false :: bs, x :: l, _ :: l' => x :: mergeF bs l l'
def slotF : List Value → Nat → Value
  | [], _ => .bool false
  | x :: _, 0 => x
  | _ :: l, n + 1 => slotF l n
theorem mask_merge : ∀ (bs : List Bool) (l l' : List Value) (f : Nat → Value) (i : Nat), mergeF bs l l' = l' → (∀ j, f (i + j) = slotF l' j) → maskF bs l f i = l'
  | [], l, l', f, i, h, _ => by cases l <;> exact h
  | b :: bs, [], l', f, i, h, _ => by cases b <;> (first | exact h | (simp only [mergeF] at h; rw [← h]; rfl))
  | b :: bs, x :: l, [], f, i, h, _ => by cases b <;> simp [mergeF] at h
  | true :: bs, x :: l, y :: l', f, i, h, hf => by
    simp only [mergeF, List.cons.injEq, true_and] at h
    simp only [maskF]
    rw [mask_merge bs l l' f (i + 1) h (fun j => by rw [show i + 1 + j = i + (j + 1) by omega, hf]; rfl), show f i = y from hf 0]
  | false :: bs, x :: l, y :: l', f, i, h, hf => by
    simp only [mergeF, List.cons.injEq] at h
    simp only [maskF]
    rw [mask_merge bs l l' f (i + 1) h.2 (fun j => by rw [show i + 1 + j = i + (j + 1) by omega, hf]; rfl), h.1]
/-- ways that meet again: the slots that a statement may write are told by one function instead of a letter each -/
theorem wp_cutF {P : Program} {s : Code} {K : Act → World → Prop} {Q' : Exit → Act → World → Prop} {l : List Value} {w : World} (bs : List Bool) (R : (Nat → Value) → World → Prop)
    (rest : ∀ f w', R f w' → K ⟨(maskF bs l f 0).toArray, []⟩ w')
    (first : ∀ (J K' : Act → World → Prop), (∀ l' w', mergeF bs l l' = l' → R (slotF l') w' → J ⟨l'.toArray, []⟩ w') → (∀ a' w', Met J a' w' → K' a' w') → s.wp P (Exit.then K' Q') ⟨l.toArray, []⟩ w) : s.wp P (Exit.then K Q') ⟨l.toArray, []⟩ w := by
  refine wp_cut (fun a' w' => ∃ l', a' = ⟨l'.toArray, []⟩ ∧ mergeF bs l l' = l' ∧ R (slotF l') w') ?_ ?_
  · rintro a' w' ⟨l', rfl, h1, h2⟩
    have := rest (slotF l') w' h2
    rwa [mask_merge bs l l' (slotF l') 0 h1 (fun j => by rw [Nat.zero_add])] at this
  · intro J K' hJ hK
    exact first J K' (fun l' w' h1 h2 => hJ _ _ ⟨l', rfl, h1, h2⟩) hK
end Go.Proofs.YtlkkkkmkaghnkaaDoor.A
