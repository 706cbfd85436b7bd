-- written by a program of this session's over the kit's print (xp.py)
import Derived.Test.YtddkffdjondjnaaGreatDoorAx0
import Derived.Test.YtddkffdjondjnaaGreatDoorAx1
import Derived.Test.YtddkffdjondjnaaGreatDoorAx2
import Derived.Test.YtddkffdjondjnaaGreatDoorAx3
import Derived.Test.YtddkffdjondjnaaGreatDoorAx4
import Derived.Test.YtddkffdjondjnaaGreatDoorAx5
import Derived.Test.YtddkffdjondjnaaGreatDoorAx6
import Derived.Test.YtddkffdjondjnaaGreatDoorAx7
import Derived.Test.YtddkffdjondjnaaGreatDoorAx8
import Derived.Test.YtddkffdjondjnaaGreatDoorAx9
-- halved
namespace Go.Proofs.YtddkffdjondjnaaGreatDoor.A
-- slim
set_option maxHeartbeats 8000000
set_option maxRecDepth 100000
open Go.RowKit Go.Proofs.YtddkffdjondjnaaGreatDoorW.PrintWords Go.Proofs.YtddkffdjondjnaaGreatDoorW.PrintLast Go.Proofs.YtddkffdjondjnaaGreatDoorW.PrintMore
attribute [local go_sem] max2_int min2_int max_two min_two max_three min_three max_four min_four   -- for this text's walks alone
set_option linter.unusedVariables false
set_option linter.unusedSimpArgs false

/-! ### laws_FnWaysLead: function 3 -/
mutual
def laws_FnWaysLead.j0 : Nat → List Int → ByteArray → ByteArray → List Int → Bool → Int → Bool → Int → Bool → List ByteArray → Bool → ByteArray → List Int → Bool → Option (Bool)
 | 0, _, _, _, _, _, _, _, _, _, _, _, _, _, _ => none
 | k + 1, x1, x5, x6, x7, x8, x11, x12, x15, x16, x19, x20, x23, x27, x258 => if x258 = true then (some false) else (if x12 = true then ((impl_FewestMoves.f k x6 x5).bind fun bt428 => ((impl_TimesMoved.f k x6 x5).bind fun bt430 => ((impl_FewestMoves.f k x5 x23).bind fun bt434 => ((impl_FewestMoves.f k x23 x6).bind fun bt436 => (if bt428.2 = true then (if bt428.1 = x11 then (if ((x11 == 0) != (x5.toList == x6.toList)) = true then (some false) else (if bt430.2 = true then ((laws_ySame.f k bt430.1 x27).bind fun t438 => (if t438 = true then ((laws_ySum.f k x27).bind fun t439 => (if t439 = x11 then (if bt434.2 = true then (if bt434.1 = (wrap64 (Int.tdiv x11 2)) then (if bt436.2 = true then (if (wrap64 (bt434.1 + bt436.1)) = x11 then (laws_FnWaysLead.j1 k x1 x5 x6 x7 x8 x11 x15 x16 x19 x20 x27) else (some false)) else (some false)) else (some false)) else (some false)) else (some false))) else (some false))) else (some false))) else (some false)) else (some false)))))) else (laws_FnWaysLead.j1 k x1 x5 x6 x7 x8 x11 x15 x16 x19 x20 x27))
def laws_FnWaysLead.j1 : Nat → List Int → ByteArray → ByteArray → List Int → Bool → Int → Int → Bool → List ByteArray → Bool → List Int → Option (Bool)
 | 0, _, _, _, _, _, _, _, _, _, _, _ => none
 | k + 1, x1, x5, x6, x7, x8, x11, x15, x16, x19, x20, x27 => if x8 = true then ((impl_PlayMoves.f k x5 x7).bind fun bt440 => (if bt440.2 = true then (if bt440.1.toList = x6.toList then (if (x7.length : Int) = x11 then (if x16 = true then (if 0 < (x7.length : Int) then (laws_FnWaysLead.j2 k x1 x5 x6 x7 x11 x19 x20 x27 ((rd x7 0) != x15)) else (none)) else (laws_FnWaysLead.j2 k x1 x5 x6 x7 x11 x19 x20 x27 false)) else (laws_FnWaysLead.j2 k x1 x5 x6 x7 x11 x19 x20 x27 true)) else (laws_FnWaysLead.j2 k x1 x5 x6 x7 x11 x19 x20 x27 true)) else (laws_FnWaysLead.j2 k x1 x5 x6 x7 x11 x19 x20 x27 true))) else (laws_FnWaysLead.j5 k x1 x5 x6 x11 x19 x20)
def laws_FnWaysLead.j5 : Nat → List Int → ByteArray → ByteArray → Int → List ByteArray → Bool → Option (Bool)
 | 0, _, _, _, _, _, _ => none
 | k + 1, x1, x5, x6, x11, x19, x20 => if x20 = true then (if (x19.length : Int) = (wrap64 (x11 + 1)) then (if 0 < (x19.length : Int) then (if (rdOf ByteArray.empty x19 0).toList = x5.toList then (if 0 ≤ x11 then (if x11 < (x19.length : Int) then (laws_FnWaysLead.j6 k x1 x19 ((rdOf ByteArray.empty x19 x11).toList != x6.toList)) else (none)) else (none)) else (laws_FnWaysLead.j6 k x1 x19 true)) else (none)) else (laws_FnWaysLead.j6 k x1 x19 true)) else (laws_FnWaysLead.j9 k x1)
def laws_FnWaysLead.j9 : Nat → List Int → Option (Bool)
 | 0, _ => none
 | k + 1, x1 => (spec_DrawMovesToClear.f x1).bind fun t451 => ((impl_MovesToClear.f k t451).bind fun bt452 => ((spec_MovesToClear.f k t451).bind fun bt454 => ((impl_AllOn.f t451).bind fun bt456 => ((spec_AllOn.f k t451).bind fun bt458 => ((impl_OtherEnd.f k t451).bind fun bt460 => ((spec_OtherEnd.f k t451).bind fun bt462 => ((spec_DrawMovesText.f k x1).bind fun t464 => ((impl_MovesText.f k t464).bind fun bt467 => ((spec_MovesText.f k t464).bind fun bt469 => ((spec_DrawParseMoves.f k x1).bind fun t471 => ((impl_ParseMoves.f k t471).bind fun bt472 => ((spec_ParseMoves.f k t471).bind fun bt476 => (if (bt452.2 != bt454.2) = true then (laws_FnWaysLead.j10 k t451 bt452.1 bt452.2 bt456.1 bt460.1 t464 bt467.1 bt467.2 t471 bt472.1 bt472.2 true) else (if bt452.1 = bt454.1 then (if (bt456.2 != bt458.2) = true then (laws_FnWaysLead.j10 k t451 bt452.1 bt452.2 bt456.1 bt460.1 t464 bt467.1 bt467.2 t471 bt472.1 bt472.2 true) else (if bt456.1.toList = bt458.1.toList then (if (bt460.2 != bt462.2) = true then (laws_FnWaysLead.j10 k t451 bt452.1 bt452.2 bt456.1 bt460.1 t464 bt467.1 bt467.2 t471 bt472.1 bt472.2 true) else (if bt460.1.toList = bt462.1.toList then (if (bt467.2 != bt469.2) = true then (laws_FnWaysLead.j10 k t451 bt452.1 bt452.2 bt456.1 bt460.1 t464 bt467.1 bt467.2 t471 bt472.1 bt472.2 true) else (if bt467.1.toList = bt469.1.toList then (if (bt472.2 != bt476.2) = true then (laws_FnWaysLead.j10 k t451 bt452.1 bt452.2 bt456.1 bt460.1 t464 bt467.1 bt467.2 t471 bt472.1 bt472.2 true) else ((laws_ySame.f k bt472.1 bt476.1).bind fun t480 => (if t480 = true then (if (bt456.2 != bt452.2) = true then (laws_FnWaysLead.j10 k t451 bt452.1 bt452.2 bt456.1 bt460.1 t464 bt467.1 bt467.2 t471 bt472.1 bt472.2 true) else (laws_FnWaysLead.j10 k t451 bt452.1 bt452.2 bt456.1 bt460.1 t464 bt467.1 bt467.2 t471 bt472.1 bt472.2 (bt460.2 != bt452.2))) else (laws_FnWaysLead.j10 k t451 bt452.1 bt452.2 bt456.1 bt460.1 t464 bt467.1 bt467.2 t471 bt472.1 bt472.2 true)))) else (laws_FnWaysLead.j10 k t451 bt452.1 bt452.2 bt456.1 bt460.1 t464 bt467.1 bt467.2 t471 bt472.1 bt472.2 true))) else (laws_FnWaysLead.j10 k t451 bt452.1 bt452.2 bt456.1 bt460.1 t464 bt467.1 bt467.2 t471 bt472.1 bt472.2 true))) else (laws_FnWaysLead.j10 k t451 bt452.1 bt452.2 bt456.1 bt460.1 t464 bt467.1 bt467.2 t471 bt472.1 bt472.2 true))) else (laws_FnWaysLead.j10 k t451 bt452.1 bt452.2 bt456.1 bt460.1 t464 bt467.1 bt467.2 t471 bt472.1 bt472.2 true)))))))))))))))
def laws_FnWaysLead.j10 : Nat → Int → Int → Bool → ByteArray → ByteArray → List Int → ByteArray → Bool → ByteArray → List Int → Bool → Bool → Option (Bool)
 | 0, _, _, _, _, _, _, _, _, _, _, _, _ => none
 | k + 1, x49, x50, x51, x54, x58, x62, x63, x64, x67, x68, x69, x553 => if x553 = true then (some false) else (if x51 = true then ((impl_NumberOfState.f k x54).bind fun bt481 => ((impl_NumberOfState.f k x58).bind fun bt483 => (if bt481.2 = true then (if bt481.1 = x50 then (if bt483.2 = true then (if 0 ≤ x49 then (if bt483.1 = (wrap64 ((shl .i64 1 x49) - 1)) then (if 0 ≤ (wrap64 (x49 + 1)) then (if x50 = (wrap64 (Int.tdiv (shl .i64 1 (wrap64 (x49 + 1))) 3)) then (laws_FnWaysLead.j11 k x62 x63 x64 x67 x68 x69) else (some false)) else (none)) else (some false)) else (none)) else (some false)) else (some false)) else (some false)))) else (laws_FnWaysLead.j11 k x62 x63 x64 x67 x68 x69))
def laws_FnWaysLead.j11 : Nat → List Int → ByteArray → Bool → ByteArray → List Int → Bool → Option (Bool)
 | 0, _, _, _, _, _, _ => none
 | k + 1, x62, x63, x64, x67, x68, x69 => if x64 = true then ((impl_ParseMoves.f k x63).bind fun bt485 => (if bt485.2 = true then ((laws_ySame.f k bt485.1 x62).bind fun t489 => (laws_FnWaysLead.j12 k x67 x68 x69 (!t489))) else (laws_FnWaysLead.j12 k x67 x68 x69 true))) else (if x69 = true then ((impl_MovesText.f k x68).bind fun bt492 => (if bt492.2 = true then (some (bt492.1.toList == x67.toList)) else (some false))) else (some true))
def laws_FnWaysLead.j12 : Nat → ByteArray → List Int → Bool → Bool → Option (Bool)
 | 0, _, _, _, _ => none
 | k + 1, x67, x68, x69, x604 => if x604 = true then (some false) else (if x69 = true then ((impl_MovesText.f k x68).bind fun bt490 => (if bt490.2 = true then (some (bt490.1.toList == x67.toList)) else (some false))) else (some true))
def laws_FnWaysLead.j6 : Nat → List Int → List ByteArray → Bool → Option (Bool)
 | 0, _, _, _ => none
 | k + 1, x1, x19, x409 => if x409 = true then (some false) else (laws_FnWaysLead.l2 k x1 x19 1)
def laws_FnWaysLead.l2 : Nat → List Int → List ByteArray → Int → Option (Bool)
 | 0, _, _, _ => none
 | k + 1, x1, x19, x46 => if x46 < (x19.length : Int) then (laws_FnWaysLead.j8 k x1 x19 x46 (decide (x46 < 100))) else (laws_FnWaysLead.j8 k x1 x19 x46 false)
def laws_FnWaysLead.j8 : Nat → List Int → List ByteArray → Int → Bool → Option (Bool)
 | 0, _, _, _, _ => none
 | k + 1, x1, x19, x46, x417 => if x417 = true then (if 0 ≤ (wrap64 (x46 - 1)) then (if (wrap64 (x46 - 1)) < (x19.length : Int) then (if 0 ≤ x46 then (if x46 < (x19.length : Int) then ((impl_FewestMoves.f k (rdOf ByteArray.empty x19 (wrap64 (x46 - 1))) (rdOf ByteArray.empty x19 x46)).bind fun bt449 => (if bt449.2 = true then (if bt449.1 = 1 then (laws_FnWaysLead.l2 k x1 x19 (wrap64 (x46 + 1))) else (some false)) else (some false))) else (none)) else (none)) else (none)) else (none)) else (laws_FnWaysLead.j9 k x1)
def laws_FnWaysLead.j2 : Nat → List Int → ByteArray → ByteArray → List Int → Int → List ByteArray → Bool → List Int → Bool → Option (Bool)
 | 0, _, _, _, _, _, _, _, _, _ => none
 | k + 1, x1, x5, x6, x7, x11, x19, x20, x27, x365 => if x365 = true then (some false) else (laws_FnWaysLead.l0 k x1 x5 x6 x7 x11 x19 x20 x27 (x27.length : Int) 0)
def laws_FnWaysLead.l0 : Nat → List Int → ByteArray → ByteArray → List Int → Int → List ByteArray → Bool → List Int → Int → Int → Option (Bool)
 | 0, _, _, _, _, _, _, _, _, _, _ => none
 | k + 1, x1, x5, x6, x7, x11, x19, x20, x366, x367, x368 => if x368 < x367 then (if 0 ≤ x368 then (if x368 < (x366.length : Int) then (laws_FnWaysLead.l1 k x1 x5 x6 x7 x11 x19 x20 x368 (rd x366 x368) 0 x366 x367 x368 x7 (x7.length : Int) 0) else (none)) else (none)) else (laws_FnWaysLead.j5 k x1 x5 x6 x11 x19 x20)
def laws_FnWaysLead.l1 : Nat → List Int → ByteArray → ByteArray → List Int → Int → List ByteArray → Bool → Int → Int → Int → List Int → Int → Int → List Int → Int → Int → Option (Bool)
 | 0, _, _, _, _, _, _, _, _, _, _, _, _, _, _, _, _ => none
 | k + 1, x1, x5, x6, x7, x11, x19, x20, x41, x42, x43, x366, x367, x368, x373, x374, x375 => if x375 < x374 then (if 0 ≤ x375 then (if x375 < (x373.length : Int) then (if (rd x373 x375) = x41 then (laws_FnWaysLead.l1 k x1 x5 x6 x7 x11 x19 x20 x41 x42 (wrap64 (x43 + 1)) x366 x367 x368 x373 x374 (wrap64 (x375 + 1))) else (laws_FnWaysLead.l1 k x1 x5 x6 x7 x11 x19 x20 x41 x42 x43 x366 x367 x368 x373 x374 (wrap64 (x375 + 1)))) else (none)) else (none)) else (if x43 = x42 then (laws_FnWaysLead.l0 k x1 x5 x6 x7 x11 x19 x20 x366 x367 (wrap64 (x368 + 1))) else (some false))
end
def laws_FnWaysLead.f (k : Nat) (l0 : List Int) (l1 : List Int) : Option (Bool) := (laws_big.f l0 l1).bind fun t386 => (if t386 = true then (some true) else ((spec_DrawWayTo.f k l0).bind fun bt387 => ((impl_WayTo.f k bt387.1 bt387.2).bind fun bt389 => ((spec_WayTo.f k bt387.1 bt387.2).bind fun bt393 => ((impl_FewestMoves.f k bt387.1 bt387.2).bind fun bt397 => ((spec_FewestMoves.f k bt387.1 bt387.2).bind fun bt399 => ((impl_NextMove.f k bt387.1 bt387.2).bind fun bt401 => ((spec_NextMove.f k bt387.1 bt387.2).bind fun bt403 => ((impl_StatesBetween.f k bt387.1 bt387.2).bind fun bt405 => ((spec_StatesBetween.f k bt387.1 bt387.2).bind fun bt409 => ((impl_MiddleOf.f k bt387.1 bt387.2).bind fun bt413 => ((spec_MiddleOf.f k bt387.1 bt387.2).bind fun bt415 => ((impl_TimesMoved.f k bt387.1 bt387.2).bind fun bt417 => ((spec_TimesMoved.f k bt387.1 bt387.2).bind fun bt421 => (if (bt389.2 != bt393.2) = true then (laws_FnWaysLead.j0 k l1 bt387.1 bt387.2 bt389.1 bt389.2 bt397.1 bt397.2 bt401.1 bt401.2 bt405.1 bt405.2 bt413.1 bt417.1 true) else ((laws_ySame.f k bt389.1 bt393.1).bind fun t425 => (if t425 = true then (if (bt397.2 != bt399.2) = true then (laws_FnWaysLead.j0 k l1 bt387.1 bt387.2 bt389.1 bt389.2 bt397.1 bt397.2 bt401.1 bt401.2 bt405.1 bt405.2 bt413.1 bt417.1 true) else (if bt397.1 = bt399.1 then (if (bt401.2 != bt403.2) = true then (laws_FnWaysLead.j0 k l1 bt387.1 bt387.2 bt389.1 bt389.2 bt397.1 bt397.2 bt401.1 bt401.2 bt405.1 bt405.2 bt413.1 bt417.1 true) else (if bt401.1 = bt403.1 then (if (bt405.2 != bt409.2) = true then (laws_FnWaysLead.j0 k l1 bt387.1 bt387.2 bt389.1 bt389.2 bt397.1 bt397.2 bt401.1 bt401.2 bt405.1 bt405.2 bt413.1 bt417.1 true) else ((laws_yTexts.f k bt405.1 bt409.1).bind fun t426 => (if t426 = true then (if (bt413.2 != bt415.2) = true then (laws_FnWaysLead.j0 k l1 bt387.1 bt387.2 bt389.1 bt389.2 bt397.1 bt397.2 bt401.1 bt401.2 bt405.1 bt405.2 bt413.1 bt417.1 true) else (if bt413.1.toList = bt415.1.toList then (if (bt417.2 != bt421.2) = true then (laws_FnWaysLead.j0 k l1 bt387.1 bt387.2 bt389.1 bt389.2 bt397.1 bt397.2 bt401.1 bt401.2 bt405.1 bt405.2 bt413.1 bt417.1 true) else ((laws_ySame.f k bt417.1 bt421.1).bind fun t427 => (if t427 = true then (if bt397.2 = true then (if (bt389.2 != (decide (bt397.1 ≤ 2000))) = true then (laws_FnWaysLead.j0 k l1 bt387.1 bt387.2 bt389.1 bt389.2 bt397.1 bt397.2 bt401.1 bt401.2 bt405.1 bt405.2 bt413.1 bt417.1 true) else (if (bt401.2 != (bt387.1.toList != bt387.2.toList)) = true then (laws_FnWaysLead.j0 k l1 bt387.1 bt387.2 bt389.1 bt389.2 bt397.1 bt397.2 bt401.1 bt401.2 bt405.1 bt405.2 bt413.1 bt417.1 true) else (if (bt405.2 != (decide (bt397.1 < 2000))) = true then (laws_FnWaysLead.j0 k l1 bt387.1 bt387.2 bt389.1 bt389.2 bt397.1 bt397.2 bt401.1 bt401.2 bt405.1 bt405.2 bt413.1 bt417.1 true) else (if (bt413.2 != bt397.2) = true then (laws_FnWaysLead.j0 k l1 bt387.1 bt387.2 bt389.1 bt389.2 bt397.1 bt397.2 bt401.1 bt401.2 bt405.1 bt405.2 bt413.1 bt417.1 true) else (laws_FnWaysLead.j0 k l1 bt387.1 bt387.2 bt389.1 bt389.2 bt397.1 bt397.2 bt401.1 bt401.2 bt405.1 bt405.2 bt413.1 bt417.1 (bt417.2 != bt397.2)))))) else (if (bt389.2 != false) = true then (laws_FnWaysLead.j0 k l1 bt387.1 bt387.2 bt389.1 bt389.2 bt397.1 bt397.2 bt401.1 bt401.2 bt405.1 bt405.2 bt413.1 bt417.1 true) else (if (bt401.2 != false) = true then (laws_FnWaysLead.j0 k l1 bt387.1 bt387.2 bt389.1 bt389.2 bt397.1 bt397.2 bt401.1 bt401.2 bt405.1 bt405.2 bt413.1 bt417.1 true) else (if (bt405.2 != false) = true then (laws_FnWaysLead.j0 k l1 bt387.1 bt387.2 bt389.1 bt389.2 bt397.1 bt397.2 bt401.1 bt401.2 bt405.1 bt405.2 bt413.1 bt417.1 true) else (if (bt413.2 != bt397.2) = true then (laws_FnWaysLead.j0 k l1 bt387.1 bt387.2 bt389.1 bt389.2 bt397.1 bt397.2 bt401.1 bt401.2 bt405.1 bt405.2 bt413.1 bt417.1 true) else (laws_FnWaysLead.j0 k l1 bt387.1 bt387.2 bt389.1 bt389.2 bt397.1 bt397.2 bt401.1 bt401.2 bt405.1 bt405.2 bt413.1 bt417.1 (bt417.2 != bt397.2))))))) else (laws_FnWaysLead.j0 k l1 bt387.1 bt387.2 bt389.1 bt389.2 bt397.1 bt397.2 bt401.1 bt401.2 bt405.1 bt405.2 bt413.1 bt417.1 true)))) else (laws_FnWaysLead.j0 k l1 bt387.1 bt387.2 bt389.1 bt389.2 bt397.1 bt397.2 bt401.1 bt401.2 bt405.1 bt405.2 bt413.1 bt417.1 true))) else (laws_FnWaysLead.j0 k l1 bt387.1 bt387.2 bt389.1 bt389.2 bt397.1 bt397.2 bt401.1 bt401.2 bt405.1 bt405.2 bt413.1 bt417.1 true)))) else (laws_FnWaysLead.j0 k l1 bt387.1 bt387.2 bt389.1 bt389.2 bt397.1 bt397.2 bt401.1 bt401.2 bt405.1 bt405.2 bt413.1 bt417.1 true))) else (laws_FnWaysLead.j0 k l1 bt387.1 bt387.2 bt389.1 bt389.2 bt397.1 bt397.2 bt401.1 bt401.2 bt405.1 bt405.2 bt413.1 bt417.1 true))) else (laws_FnWaysLead.j0 k l1 bt387.1 bt387.2 bt389.1 bt389.2 bt397.1 bt397.2 bt401.1 bt401.2 bt405.1 bt405.2 bt413.1 bt417.1 true))))))))))))))))))
theorem laws_FnWaysLead.mono_l : ∀ k, (∀ y0 y1 y2 y3 y4 y5 y6 y7 y8 y9 y10 y11 y12 y13, LeO (laws_FnWaysLead.j0 k y0 y1 y2 y3 y4 y5 y6 y7 y8 y9 y10 y11 y12 y13) (laws_FnWaysLead.j0 (k + 1) y0 y1 y2 y3 y4 y5 y6 y7 y8 y9 y10 y11 y12 y13)) ∧ (∀ y0 y1 y2 y3 y4 y5 y6 y7 y8 y9 y10, LeO (laws_FnWaysLead.j1 k y0 y1 y2 y3 y4 y5 y6 y7 y8 y9 y10) (laws_FnWaysLead.j1 (k + 1) y0 y1 y2 y3 y4 y5 y6 y7 y8 y9 y10)) ∧ (∀ y0 y1 y2 y3 y4 y5, LeO (laws_FnWaysLead.j5 k y0 y1 y2 y3 y4 y5) (laws_FnWaysLead.j5 (k + 1) y0 y1 y2 y3 y4 y5)) ∧ (∀ y0, LeO (laws_FnWaysLead.j9 k y0) (laws_FnWaysLead.j9 (k + 1) y0)) ∧ (∀ y0 y1 y2 y3 y4 y5 y6 y7 y8 y9 y10 y11, LeO (laws_FnWaysLead.j10 k y0 y1 y2 y3 y4 y5 y6 y7 y8 y9 y10 y11) (laws_FnWaysLead.j10 (k + 1) y0 y1 y2 y3 y4 y5 y6 y7 y8 y9 y10 y11)) ∧ (∀ y0 y1 y2 y3 y4 y5, LeO (laws_FnWaysLead.j11 k y0 y1 y2 y3 y4 y5) (laws_FnWaysLead.j11 (k + 1) y0 y1 y2 y3 y4 y5)) ∧ (∀ y0 y1 y2 y3, LeO (laws_FnWaysLead.j12 k y0 y1 y2 y3) (laws_FnWaysLead.j12 (k + 1) y0 y1 y2 y3)) ∧ (∀ y0 y1 y2, LeO (laws_FnWaysLead.j6 k y0 y1 y2) (laws_FnWaysLead.j6 (k + 1) y0 y1 y2)) ∧ (∀ y0 y1 y2, LeO (laws_FnWaysLead.l2 k y0 y1 y2) (laws_FnWaysLead.l2 (k + 1) y0 y1 y2)) ∧ (∀ y0 y1 y2 y3, LeO (laws_FnWaysLead.j8 k y0 y1 y2 y3) (laws_FnWaysLead.j8 (k + 1) y0 y1 y2 y3)) ∧ (∀ y0 y1 y2 y3 y4 y5 y6 y7 y8, LeO (laws_FnWaysLead.j2 k y0 y1 y2 y3 y4 y5 y6 y7 y8) (laws_FnWaysLead.j2 (k + 1) y0 y1 y2 y3 y4 y5 y6 y7 y8)) ∧ (∀ y0 y1 y2 y3 y4 y5 y6 y7 y8 y9, LeO (laws_FnWaysLead.l0 k y0 y1 y2 y3 y4 y5 y6 y7 y8 y9) (laws_FnWaysLead.l0 (k + 1) y0 y1 y2 y3 y4 y5 y6 y7 y8 y9)) ∧ (∀ y0 y1 y2 y3 y4 y5 y6 y7 y8 y9 y10 y11 y12 y13 y14 y15, LeO (laws_FnWaysLead.l1 k y0 y1 y2 y3 y4 y5 y6 y7 y8 y9 y10 y11 y12 y13 y14 y15) (laws_FnWaysLead.l1 (k + 1) y0 y1 y2 y3 y4 y5 y6 y7 y8 y9 y10 y11 y12 y13 y14 y15))
 | 0 => ⟨fun _ _ _ _ _ _ _ _ _ _ _ _ _ _ r h => by simp [laws_FnWaysLead.j0] at h, fun _ _ _ _ _ _ _ _ _ _ _ r h => by simp [laws_FnWaysLead.j1] at h, fun _ _ _ _ _ _ r h => by simp [laws_FnWaysLead.j5] at h, fun _ r h => by simp [laws_FnWaysLead.j9] at h, fun _ _ _ _ _ _ _ _ _ _ _ _ r h => by simp [laws_FnWaysLead.j10] at h, fun _ _ _ _ _ _ r h => by simp [laws_FnWaysLead.j11] at h, fun _ _ _ _ r h => by simp [laws_FnWaysLead.j12] at h, fun _ _ _ r h => by simp [laws_FnWaysLead.j6] at h, fun _ _ _ r h => by simp [laws_FnWaysLead.l2] at h, fun _ _ _ _ r h => by simp [laws_FnWaysLead.j8] at h, fun _ _ _ _ _ _ _ _ _ r h => by simp [laws_FnWaysLead.j2] at h, fun _ _ _ _ _ _ _ _ _ _ r h => by simp [laws_FnWaysLead.l0] at h, fun _ _ _ _ _ _ _ _ _ _ _ _ _ _ _ _ r h => by simp [laws_FnWaysLead.l1] at h⟩
 | k + 1 => by
  obtain ⟨ih0, ih1, ih2, ih3, ih4, ih5, ih6, ih7, ih8, ih9, ih10, ih11, ih12⟩ := laws_FnWaysLead.mono_l k
  refine ⟨?_, ?_, ?_, ?_, ?_, ?_, ?_, ?_, ?_, ?_, ?_, ?_, ?_⟩
  ·intro y0 y1 y2 y3 y4 y5 y6 y7 y8 y9 y10 y11 y12 y13
   unfold laws_FnWaysLead.j0
   repeat' first
   | (with_reducible exact ih0 _ _ _ _ _ _ _ _ _ _ _ _ _ _)
   | (with_reducible exact ih1 _ _ _ _ _ _ _ _ _ _ _)
   | (with_reducible exact ih2 _ _ _ _ _ _)
   | (with_reducible exact ih3 _)
   | (with_reducible exact ih4 _ _ _ _ _ _ _ _ _ _ _ _)
   | (with_reducible exact ih5 _ _ _ _ _ _)
   | (with_reducible exact ih6 _ _ _ _)
   | (with_reducible exact ih7 _ _ _)
   | (with_reducible exact ih8 _ _ _)
   | (with_reducible exact ih9 _ _ _ _)
   | (with_reducible exact ih10 _ _ _ _ _ _ _ _ _)
   | (with_reducible exact ih11 _ _ _ _ _ _ _ _ _ _)
   | (with_reducible exact ih12 _ _ _ _ _ _ _ _ _ _ _ _ _ _ _ _)
   | (with_reducible exact impl_FewestMoves.mono _ _ _)
   | (with_reducible exact impl_MiddleOf.mono _ _ _)
   | (with_reducible exact impl_MovesText.mono _ _)
   | (with_reducible exact impl_MovesToClear.mono _ _)
   | (with_reducible exact impl_NextMove.mono _ _ _)
   | (with_reducible exact impl_NumberOfState.mono _ _)
   | (with_reducible exact impl_OtherEnd.mono _ _)
   | (with_reducible exact impl_ParseMoves.mono _ _)
   | (with_reducible exact impl_PlayMoves.mono _ _ _)
   | (with_reducible exact impl_StatesBetween.mono _ _ _)
   | (with_reducible exact impl_TimesMoved.mono _ _ _)
   | (with_reducible exact impl_WayTo.mono _ _ _)
   | (with_reducible exact laws_ySame.mono _ _ _)
   | (with_reducible exact laws_ySum.mono _ _)
   | (with_reducible exact laws_yTexts.mono _ _ _)
   | (with_reducible exact spec_AllOn.mono _ _)
   | (with_reducible exact spec_DrawMovesText.mono _ _)
   | (with_reducible exact spec_DrawParseMoves.mono _ _)
   | (with_reducible exact spec_DrawWayTo.mono _ _)
   | (with_reducible exact spec_FewestMoves.mono _ _ _)
   | (with_reducible exact spec_MiddleOf.mono _ _ _)
   | (with_reducible exact spec_MovesText.mono _ _)
   | (with_reducible exact spec_MovesToClear.mono _ _)
   | (with_reducible exact spec_NextMove.mono _ _ _)
   | (with_reducible exact spec_OtherEnd.mono _ _)
   | (with_reducible exact spec_ParseMoves.mono _ _)
   | (with_reducible exact spec_StatesBetween.mono _ _ _)
   | (with_reducible exact spec_TimesMoved.mono _ _ _)
   | (with_reducible exact spec_WayTo.mono _ _ _)
   | (with_reducible exact LeO.refl _)
   | (with_reducible exact LeO.none _)
   | (with_reducible refine LeO.ite ?_ ?_)
   | (with_reducible refine LeO.bind ?_ (fun _ => ?_))
   | exact ih0 _ _ _ _ _ _ _ _ _ _ _ _ _ _
   | exact ih1 _ _ _ _ _ _ _ _ _ _ _
   | exact ih2 _ _ _ _ _ _
   | exact ih3 _
   | exact ih4 _ _ _ _ _ _ _ _ _ _ _ _
   | exact ih5 _ _ _ _ _ _
   | exact ih6 _ _ _ _
   | exact ih7 _ _ _
   | exact ih8 _ _ _
   | exact ih9 _ _ _ _
   | exact ih10 _ _ _ _ _ _ _ _ _
   | exact ih11 _ _ _ _ _ _ _ _ _ _
   | exact ih12 _ _ _ _ _ _ _ _ _ _ _ _ _ _ _ _
   | exact impl_FewestMoves.mono _ _ _
   | exact impl_MiddleOf.mono _ _ _
   | exact impl_MovesText.mono _ _
   | exact impl_MovesToClear.mono _ _
   | exact impl_NextMove.mono _ _ _
   | exact impl_NumberOfState.mono _ _
   | exact impl_OtherEnd.mono _ _
   | exact impl_ParseMoves.mono _ _
   | exact impl_PlayMoves.mono _ _ _
   | exact impl_StatesBetween.mono _ _ _
   | exact impl_TimesMoved.mono _ _ _
   | exact impl_WayTo.mono _ _ _
   | exact laws_ySame.mono _ _ _
   | exact laws_ySum.mono _ _
   | exact laws_yTexts.mono _ _ _
   | exact spec_AllOn.mono _ _
   | exact spec_DrawMovesText.mono _ _
   | exact spec_DrawParseMoves.mono _ _
   | exact spec_DrawWayTo.mono _ _
   | exact spec_FewestMoves.mono _ _ _
   | exact spec_MiddleOf.mono _ _ _
   | exact spec_MovesText.mono _ _
   | exact spec_MovesToClear.mono _ _
   | exact spec_NextMove.mono _ _ _
   | exact spec_OtherEnd.mono _ _
   | exact spec_ParseMoves.mono _ _
   | exact spec_StatesBetween.mono _ _ _
   | exact spec_TimesMoved.mono _ _ _
   | exact spec_WayTo.mono _ _ _
   | exact LeO.none _
   | refine LeO.ite ?_ ?_
   | refine LeO.bind ?_ (fun _ => ?_)
  ·intro y0 y1 y2 y3 y4 y5 y6 y7 y8 y9 y10
   unfold laws_FnWaysLead.j1
   repeat' first
   | (with_reducible exact ih0 _ _ _ _ _ _ _ _ _ _ _ _ _ _)
   | (with_reducible exact ih1 _ _ _ _ _ _ _ _ _ _ _)
   | (with_reducible exact ih2 _ _ _ _ _ _)
   | (with_reducible exact ih3 _)
   | (with_reducible exact ih4 _ _ _ _ _ _ _ _ _ _ _ _)
   | (with_reducible exact ih5 _ _ _ _ _ _)
   | (with_reducible exact ih6 _ _ _ _)
   | (with_reducible exact ih7 _ _ _)
   | (with_reducible exact ih8 _ _ _)
   | (with_reducible exact ih9 _ _ _ _)
   | (with_reducible exact ih10 _ _ _ _ _ _ _ _ _)
   | (with_reducible exact ih11 _ _ _ _ _ _ _ _ _ _)
   | (with_reducible exact ih12 _ _ _ _ _ _ _ _ _ _ _ _ _ _ _ _)
   | (with_reducible exact impl_FewestMoves.mono _ _ _)
   | (with_reducible exact impl_MiddleOf.mono _ _ _)
   | (with_reducible exact impl_MovesText.mono _ _)
   | (with_reducible exact impl_MovesToClear.mono _ _)
   | (with_reducible exact impl_NextMove.mono _ _ _)
   | (with_reducible exact impl_NumberOfState.mono _ _)
   | (with_reducible exact impl_OtherEnd.mono _ _)
   | (with_reducible exact impl_ParseMoves.mono _ _)
   | (with_reducible exact impl_PlayMoves.mono _ _ _)
   | (with_reducible exact impl_StatesBetween.mono _ _ _)
   | (with_reducible exact impl_TimesMoved.mono _ _ _)
   | (with_reducible exact impl_WayTo.mono _ _ _)
   | (with_reducible exact laws_ySame.mono _ _ _)
   | (with_reducible exact laws_ySum.mono _ _)
   | (with_reducible exact laws_yTexts.mono _ _ _)
   | (with_reducible exact spec_AllOn.mono _ _)
   | (with_reducible exact spec_DrawMovesText.mono _ _)
   | (with_reducible exact spec_DrawParseMoves.mono _ _)
   | (with_reducible exact spec_DrawWayTo.mono _ _)
   | (with_reducible exact spec_FewestMoves.mono _ _ _)
   | (with_reducible exact spec_MiddleOf.mono _ _ _)
   | (with_reducible exact spec_MovesText.mono _ _)
   | (with_reducible exact spec_MovesToClear.mono _ _)
   | (with_reducible exact spec_NextMove.mono _ _ _)
   | (with_reducible exact spec_OtherEnd.mono _ _)
   | (with_reducible exact spec_ParseMoves.mono _ _)
   | (with_reducible exact spec_StatesBetween.mono _ _ _)
   | (with_reducible exact spec_TimesMoved.mono _ _ _)
   | (with_reducible exact spec_WayTo.mono _ _ _)
   | (with_reducible exact LeO.refl _)
   | (with_reducible exact LeO.none _)
   | (with_reducible refine LeO.ite ?_ ?_)
   | (with_reducible refine LeO.bind ?_ (fun _ => ?_))
   | exact ih0 _ _ _ _ _ _ _ _ _ _ _ _ _ _
   | exact ih1 _ _ _ _ _ _ _ _ _ _ _
   | exact ih2 _ _ _ _ _ _
   | exact ih3 _
   | exact ih4 _ _ _ _ _ _ _ _ _ _ _ _
   | exact ih5 _ _ _ _ _ _
   | exact ih6 _ _ _ _
   | exact ih7 _ _ _
   | exact ih8 _ _ _
   | exact ih9 _ _ _ _
   | exact ih10 _ _ _ _ _ _ _ _ _
   | exact ih11 _ _ _ _ _ _ _ _ _ _
   | exact ih12 _ _ _ _ _ _ _ _ _ _ _ _ _ _ _ _
   | exact impl_FewestMoves.mono _ _ _
   | exact impl_MiddleOf.mono _ _ _
   | exact impl_MovesText.mono _ _
   | exact impl_MovesToClear.mono _ _
   | exact impl_NextMove.mono _ _ _
   | exact impl_NumberOfState.mono _ _
   | exact impl_OtherEnd.mono _ _
   | exact impl_ParseMoves.mono _ _
   | exact impl_PlayMoves.mono _ _ _
   | exact impl_StatesBetween.mono _ _ _
   | exact impl_TimesMoved.mono _ _ _
   | exact impl_WayTo.mono _ _ _
   | exact laws_ySame.mono _ _ _
   | exact laws_ySum.mono _ _
   | exact laws_yTexts.mono _ _ _
   | exact spec_AllOn.mono _ _
   | exact spec_DrawMovesText.mono _ _
   | exact spec_DrawParseMoves.mono _ _
   | exact spec_DrawWayTo.mono _ _
   | exact spec_FewestMoves.mono _ _ _
   | exact spec_MiddleOf.mono _ _ _
   | exact spec_MovesText.mono _ _
   | exact spec_MovesToClear.mono _ _
   | exact spec_NextMove.mono _ _ _
   | exact spec_OtherEnd.mono _ _
   | exact spec_ParseMoves.mono _ _
   | exact spec_StatesBetween.mono _ _ _
   | exact spec_TimesMoved.mono _ _ _
   | exact spec_WayTo.mono _ _ _
   | exact LeO.none _
   | refine LeO.ite ?_ ?_
   | refine LeO.bind ?_ (fun _ => ?_)
  ·intro y0 y1 y2 y3 y4 y5
   unfold laws_FnWaysLead.j5
   repeat' first
   | (with_reducible exact ih0 _ _ _ _ _ _ _ _ _ _ _ _ _ _)
   | (with_reducible exact ih1 _ _ _ _ _ _ _ _ _ _ _)
   | (with_reducible exact ih2 _ _ _ _ _ _)
   | (with_reducible exact ih3 _)
   | (with_reducible exact ih4 _ _ _ _ _ _ _ _ _ _ _ _)
   | (with_reducible exact ih5 _ _ _ _ _ _)
   | (with_reducible exact ih6 _ _ _ _)
   | (with_reducible exact ih7 _ _ _)
   | (with_reducible exact ih8 _ _ _)
   | (with_reducible exact ih9 _ _ _ _)
   | (with_reducible exact ih10 _ _ _ _ _ _ _ _ _)
   | (with_reducible exact ih11 _ _ _ _ _ _ _ _ _ _)
   | (with_reducible exact ih12 _ _ _ _ _ _ _ _ _ _ _ _ _ _ _ _)
   | (with_reducible exact impl_FewestMoves.mono _ _ _)
   | (with_reducible exact impl_MiddleOf.mono _ _ _)
   | (with_reducible exact impl_MovesText.mono _ _)
   | (with_reducible exact impl_MovesToClear.mono _ _)
   | (with_reducible exact impl_NextMove.mono _ _ _)
   | (with_reducible exact impl_NumberOfState.mono _ _)
   | (with_reducible exact impl_OtherEnd.mono _ _)
   | (with_reducible exact impl_ParseMoves.mono _ _)
   | (with_reducible exact impl_PlayMoves.mono _ _ _)
   | (with_reducible exact impl_StatesBetween.mono _ _ _)
   | (with_reducible exact impl_TimesMoved.mono _ _ _)
   | (with_reducible exact impl_WayTo.mono _ _ _)
   | (with_reducible exact laws_ySame.mono _ _ _)
   | (with_reducible exact laws_ySum.mono _ _)
   | (with_reducible exact laws_yTexts.mono _ _ _)
   | (with_reducible exact spec_AllOn.mono _ _)
   | (with_reducible exact spec_DrawMovesText.mono _ _)
   | (with_reducible exact spec_DrawParseMoves.mono _ _)
   | (with_reducible exact spec_DrawWayTo.mono _ _)
   | (with_reducible exact spec_FewestMoves.mono _ _ _)
   | (with_reducible exact spec_MiddleOf.mono _ _ _)
   | (with_reducible exact spec_MovesText.mono _ _)
   | (with_reducible exact spec_MovesToClear.mono _ _)
   | (with_reducible exact spec_NextMove.mono _ _ _)
   | (with_reducible exact spec_OtherEnd.mono _ _)
   | (with_reducible exact spec_ParseMoves.mono _ _)
   | (with_reducible exact spec_StatesBetween.mono _ _ _)
   | (with_reducible exact spec_TimesMoved.mono _ _ _)
   | (with_reducible exact spec_WayTo.mono _ _ _)
   | (with_reducible exact LeO.refl _)
   | (with_reducible exact LeO.none _)
   | (with_reducible refine LeO.ite ?_ ?_)
   | (with_reducible refine LeO.bind ?_ (fun _ => ?_))
   | exact ih0 _ _ _ _ _ _ _ _ _ _ _ _ _ _
   | exact ih1 _ _ _ _ _ _ _ _ _ _ _
   | exact ih2 _ _ _ _ _ _
   | exact ih3 _
   | exact ih4 _ _ _ _ _ _ _ _ _ _ _ _
   | exact ih5 _ _ _ _ _ _
   | exact ih6 _ _ _ _
   | exact ih7 _ _ _
   | exact ih8 _ _ _
   | exact ih9 _ _ _ _
   | exact ih10 _ _ _ _ _ _ _ _ _
   | exact ih11 _ _ _ _ _ _ _ _ _ _
   | exact ih12 _ _ _ _ _ _ _ _ _ _ _ _ _ _ _ _
   | exact impl_FewestMoves.mono _ _ _
   | exact impl_MiddleOf.mono _ _ _
   | exact impl_MovesText.mono _ _
   | exact impl_MovesToClear.mono _ _
   | exact impl_NextMove.mono _ _ _
   | exact impl_NumberOfState.mono _ _
   | exact impl_OtherEnd.mono _ _
   | exact impl_ParseMoves.mono _ _
   | exact impl_PlayMoves.mono _ _ _
   | exact impl_StatesBetween.mono _ _ _
   | exact impl_TimesMoved.mono _ _ _
   | exact impl_WayTo.mono _ _ _
   | exact laws_ySame.mono _ _ _
   | exact laws_ySum.mono _ _
   | exact laws_yTexts.mono _ _ _
   | exact spec_AllOn.mono _ _
   | exact spec_DrawMovesText.mono _ _
   | exact spec_DrawParseMoves.mono _ _
   | exact spec_DrawWayTo.mono _ _
   | exact spec_FewestMoves.mono _ _ _
   | exact spec_MiddleOf.mono _ _ _
   | exact spec_MovesText.mono _ _
   | exact spec_MovesToClear.mono _ _
   | exact spec_NextMove.mono _ _ _
   | exact spec_OtherEnd.mono _ _
   | exact spec_ParseMoves.mono _ _
   | exact spec_StatesBetween.mono _ _ _
   | exact spec_TimesMoved.mono _ _ _
   | exact spec_WayTo.mono _ _ _
   | exact LeO.none _
   | refine LeO.ite ?_ ?_
   | refine LeO.bind ?_ (fun _ => ?_)
  ·intro y0
   unfold laws_FnWaysLead.j9
   repeat' first
   | (with_reducible exact ih0 _ _ _ _ _ _ _ _ _ _ _ _ _ _)
   | (with_reducible exact ih1 _ _ _ _ _ _ _ _ _ _ _)
   | (with_reducible exact ih2 _ _ _ _ _ _)
   | (with_reducible exact ih3 _)
   | (with_reducible exact ih4 _ _ _ _ _ _ _ _ _ _ _ _)
   | (with_reducible exact ih5 _ _ _ _ _ _)
   | (with_reducible exact ih6 _ _ _ _)
   | (with_reducible exact ih7 _ _ _)
   | (with_reducible exact ih8 _ _ _)
   | (with_reducible exact ih9 _ _ _ _)
   | (with_reducible exact ih10 _ _ _ _ _ _ _ _ _)
   | (with_reducible exact ih11 _ _ _ _ _ _ _ _ _ _)
   | (with_reducible exact ih12 _ _ _ _ _ _ _ _ _ _ _ _ _ _ _ _)
   | (with_reducible exact impl_FewestMoves.mono _ _ _)
   | (with_reducible exact impl_MiddleOf.mono _ _ _)
   | (with_reducible exact impl_MovesText.mono _ _)
   | (with_reducible exact impl_MovesToClear.mono _ _)
   | (with_reducible exact impl_NextMove.mono _ _ _)
   | (with_reducible exact impl_NumberOfState.mono _ _)
   | (with_reducible exact impl_OtherEnd.mono _ _)
   | (with_reducible exact impl_ParseMoves.mono _ _)
   | (with_reducible exact impl_PlayMoves.mono _ _ _)
   | (with_reducible exact impl_StatesBetween.mono _ _ _)
   | (with_reducible exact impl_TimesMoved.mono _ _ _)
   | (with_reducible exact impl_WayTo.mono _ _ _)
   | (with_reducible exact laws_ySame.mono _ _ _)
   | (with_reducible exact laws_ySum.mono _ _)
   | (with_reducible exact laws_yTexts.mono _ _ _)
   | (with_reducible exact spec_AllOn.mono _ _)
   | (with_reducible exact spec_DrawMovesText.mono _ _)
   | (with_reducible exact spec_DrawParseMoves.mono _ _)
   | (with_reducible exact spec_DrawWayTo.mono _ _)
   | (with_reducible exact spec_FewestMoves.mono _ _ _)
   | (with_reducible exact spec_MiddleOf.mono _ _ _)
   | (with_reducible exact spec_MovesText.mono _ _)
   | (with_reducible exact spec_MovesToClear.mono _ _)
   | (with_reducible exact spec_NextMove.mono _ _ _)
   | (with_reducible exact spec_OtherEnd.mono _ _)
   | (with_reducible exact spec_ParseMoves.mono _ _)
   | (with_reducible exact spec_StatesBetween.mono _ _ _)
   | (with_reducible exact spec_TimesMoved.mono _ _ _)
   | (with_reducible exact spec_WayTo.mono _ _ _)
   | (with_reducible exact LeO.refl _)
   | (with_reducible exact LeO.none _)
   | (with_reducible refine LeO.ite ?_ ?_)
   | (with_reducible refine LeO.bind ?_ (fun _ => ?_))
   | exact ih0 _ _ _ _ _ _ _ _ _ _ _ _ _ _
   | exact ih1 _ _ _ _ _ _ _ _ _ _ _
   | exact ih2 _ _ _ _ _ _
   | exact ih3 _
   | exact ih4 _ _ _ _ _ _ _ _ _ _ _ _
   | exact ih5 _ _ _ _ _ _
   | exact ih6 _ _ _ _
   | exact ih7 _ _ _
   | exact ih8 _ _ _
   | exact ih9 _ _ _ _
   | exact ih10 _ _ _ _ _ _ _ _ _
   | exact ih11 _ _ _ _ _ _ _ _ _ _
   | exact ih12 _ _ _ _ _ _ _ _ _ _ _ _ _ _ _ _
   | exact impl_FewestMoves.mono _ _ _
   | exact impl_MiddleOf.mono _ _ _
   | exact impl_MovesText.mono _ _
   | exact impl_MovesToClear.mono _ _
   | exact impl_NextMove.mono _ _ _
   | exact impl_NumberOfState.mono _ _
   | exact impl_OtherEnd.mono _ _
   | exact impl_ParseMoves.mono _ _
   | exact impl_PlayMoves.mono _ _ _
   | exact impl_StatesBetween.mono _ _ _
   | exact impl_TimesMoved.mono _ _ _
   | exact impl_WayTo.mono _ _ _
   | exact laws_ySame.mono _ _ _
   | exact laws_ySum.mono _ _
   | exact laws_yTexts.mono _ _ _
   | exact spec_AllOn.mono _ _
   | exact spec_DrawMovesText.mono _ _
   | exact spec_DrawParseMoves.mono _ _
   | exact spec_DrawWayTo.mono _ _
   | exact spec_FewestMoves.mono _ _ _
   | exact spec_MiddleOf.mono _ _ _
   | exact spec_MovesText.mono _ _
   | exact spec_MovesToClear.mono _ _
   | exact spec_NextMove.mono _ _ _
   | exact spec_OtherEnd.mono _ _
   | exact spec_ParseMoves.mono _ _
   | exact spec_StatesBetween.mono _ _ _
   | exact spec_TimesMoved.mono _ _ _
   | exact spec_WayTo.mono _ _ _
   | exact LeO.none _
   | refine LeO.ite ?_ ?_
   | refine LeO.bind ?_ (fun _ => ?_)
  ·intro y0 y1 y2 y3 y4 y5 y6 y7 y8 y9 y10 y11
   unfold laws_FnWaysLead.j10
   repeat' first
   | (with_reducible exact ih0 _ _ _ _ _ _ _ _ _ _ _ _ _ _)
   | (with_reducible exact ih1 _ _ _ _ _ _ _ _ _ _ _)
   | (with_reducible exact ih2 _ _ _ _ _ _)
   | (with_reducible exact ih3 _)
   | (with_reducible exact ih4 _ _ _ _ _ _ _ _ _ _ _ _)
   | (with_reducible exact ih5 _ _ _ _ _ _)
   | (with_reducible exact ih6 _ _ _ _)
   | (with_reducible exact ih7 _ _ _)
   | (with_reducible exact ih8 _ _ _)
   | (with_reducible exact ih9 _ _ _ _)
   | (with_reducible exact ih10 _ _ _ _ _ _ _ _ _)
   | (with_reducible exact ih11 _ _ _ _ _ _ _ _ _ _)
   | (with_reducible exact ih12 _ _ _ _ _ _ _ _ _ _ _ _ _ _ _ _)
   | (with_reducible exact impl_FewestMoves.mono _ _ _)
   | (with_reducible exact impl_MiddleOf.mono _ _ _)
   | (with_reducible exact impl_MovesText.mono _ _)
   | (with_reducible exact impl_MovesToClear.mono _ _)
   | (with_reducible exact impl_NextMove.mono _ _ _)
   | (with_reducible exact impl_NumberOfState.mono _ _)
   | (with_reducible exact impl_OtherEnd.mono _ _)
   | (with_reducible exact impl_ParseMoves.mono _ _)
   | (with_reducible exact impl_PlayMoves.mono _ _ _)
   | (with_reducible exact impl_StatesBetween.mono _ _ _)
   | (with_reducible exact impl_TimesMoved.mono _ _ _)
   | (with_reducible exact impl_WayTo.mono _ _ _)
   | (with_reducible exact laws_ySame.mono _ _ _)
   | (with_reducible exact laws_ySum.mono _ _)
   | (with_reducible exact laws_yTexts.mono _ _ _)
   | (with_reducible exact spec_AllOn.mono _ _)
   | (with_reducible exact spec_DrawMovesText.mono _ _)
   | (with_reducible exact spec_DrawParseMoves.mono _ _)
   | (with_reducible exact spec_DrawWayTo.mono _ _)
   | (with_reducible exact spec_FewestMoves.mono _ _ _)
   | (with_reducible exact spec_MiddleOf.mono _ _ _)
   | (with_reducible exact spec_MovesText.mono _ _)
   | (with_reducible exact spec_MovesToClear.mono _ _)
   | (with_reducible exact spec_NextMove.mono _ _ _)
   | (with_reducible exact spec_OtherEnd.mono _ _)
   | (with_reducible exact spec_ParseMoves.mono _ _)
   | (with_reducible exact spec_StatesBetween.mono _ _ _)
   | (with_reducible exact spec_TimesMoved.mono _ _ _)
   | (with_reducible exact spec_WayTo.mono _ _ _)
   | (with_reducible exact LeO.refl _)
   | (with_reducible exact LeO.none _)
   | (with_reducible refine LeO.ite ?_ ?_)
   | (with_reducible refine LeO.bind ?_ (fun _ => ?_))
   | exact ih0 _ _ _ _ _ _ _ _ _ _ _ _ _ _
   | exact ih1 _ _ _ _ _ _ _ _ _ _ _
   | exact ih2 _ _ _ _ _ _
   | exact ih3 _
   | exact ih4 _ _ _ _ _ _ _ _ _ _ _ _
   | exact ih5 _ _ _ _ _ _
   | exact ih6 _ _ _ _
   | exact ih7 _ _ _
   | exact ih8 _ _ _
   | exact ih9 _ _ _ _
   | exact ih10 _ _ _ _ _ _ _ _ _
   | exact ih11 _ _ _ _ _ _ _ _ _ _
   | exact ih12 _ _ _ _ _ _ _ _ _ _ _ _ _ _ _ _
   | exact impl_FewestMoves.mono _ _ _
   | exact impl_MiddleOf.mono _ _ _
   | exact impl_MovesText.mono _ _
   | exact impl_MovesToClear.mono _ _
   | exact impl_NextMove.mono _ _ _
   | exact impl_NumberOfState.mono _ _
   | exact impl_OtherEnd.mono _ _
   | exact impl_ParseMoves.mono _ _
   | exact impl_PlayMoves.mono _ _ _
   | exact impl_StatesBetween.mono _ _ _
   | exact impl_TimesMoved.mono _ _ _
   | exact impl_WayTo.mono _ _ _
   | exact laws_ySame.mono _ _ _
   | exact laws_ySum.mono _ _
   | exact laws_yTexts.mono _ _ _
   | exact spec_AllOn.mono _ _
   | exact spec_DrawMovesText.mono _ _
   | exact spec_DrawParseMoves.mono _ _
   | exact spec_DrawWayTo.mono _ _
   | exact spec_FewestMoves.mono _ _ _
   | exact spec_MiddleOf.mono _ _ _
   | exact spec_MovesText.mono _ _
   | exact spec_MovesToClear.mono _ _
   | exact spec_NextMove.mono _ _ _
   | exact spec_OtherEnd.mono _ _
   | exact spec_ParseMoves.mono _ _
   | exact spec_StatesBetween.mono _ _ _
   | exact spec_TimesMoved.mono _ _ _
   | exact spec_WayTo.mono _ _ _
   | exact LeO.none _
   | refine LeO.ite ?_ ?_
   | refine LeO.bind ?_ (fun _ => ?_)
  ·intro y0 y1 y2 y3 y4 y5
   unfold laws_FnWaysLead.j11
   repeat' first
   | (with_reducible exact ih0 _ _ _ _ _ _ _ _ _ _ _ _ _ _)
   | (with_reducible exact ih1 _ _ _ _ _ _ _ _ _ _ _)
   | (with_reducible exact ih2 _ _ _ _ _ _)
   | (with_reducible exact ih3 _)
   | (with_reducible exact ih4 _ _ _ _ _ _ _ _ _ _ _ _)
   | (with_reducible exact ih5 _ _ _ _ _ _)
   | (with_reducible exact ih6 _ _ _ _)
   | (with_reducible exact ih7 _ _ _)
   | (with_reducible exact ih8 _ _ _)
   | (with_reducible exact ih9 _ _ _ _)
   | (with_reducible exact ih10 _ _ _ _ _ _ _ _ _)
   | (with_reducible exact ih11 _ _ _ _ _ _ _ _ _ _)
   | (with_reducible exact ih12 _ _ _ _ _ _ _ _ _ _ _ _ _ _ _ _)
   | (with_reducible exact impl_FewestMoves.mono _ _ _)
   | (with_reducible exact impl_MiddleOf.mono _ _ _)
   | (with_reducible exact impl_MovesText.mono _ _)
   | (with_reducible exact impl_MovesToClear.mono _ _)
   | (with_reducible exact impl_NextMove.mono _ _ _)
   | (with_reducible exact impl_NumberOfState.mono _ _)
   | (with_reducible exact impl_OtherEnd.mono _ _)
   | (with_reducible exact impl_ParseMoves.mono _ _)
   | (with_reducible exact impl_PlayMoves.mono _ _ _)
   | (with_reducible exact impl_StatesBetween.mono _ _ _)
   | (with_reducible exact impl_TimesMoved.mono _ _ _)
   | (with_reducible exact impl_WayTo.mono _ _ _)
   | (with_reducible exact laws_ySame.mono _ _ _)
   | (with_reducible exact laws_ySum.mono _ _)
   | (with_reducible exact laws_yTexts.mono _ _ _)
   | (with_reducible exact spec_AllOn.mono _ _)
   | (with_reducible exact spec_DrawMovesText.mono _ _)
   | (with_reducible exact spec_DrawParseMoves.mono _ _)
   | (with_reducible exact spec_DrawWayTo.mono _ _)
   | (with_reducible exact spec_FewestMoves.mono _ _ _)
   | (with_reducible exact spec_MiddleOf.mono _ _ _)
   | (with_reducible exact spec_MovesText.mono _ _)
   | (with_reducible exact spec_MovesToClear.mono _ _)
   | (with_reducible exact spec_NextMove.mono _ _ _)
   | (with_reducible exact spec_OtherEnd.mono _ _)
   | (with_reducible exact spec_ParseMoves.mono _ _)
   | (with_reducible exact spec_StatesBetween.mono _ _ _)
   | (with_reducible exact spec_TimesMoved.mono _ _ _)
   | (with_reducible exact spec_WayTo.mono _ _ _)
   | (with_reducible exact LeO.refl _)
   | (with_reducible exact LeO.none _)
   | (with_reducible refine LeO.ite ?_ ?_)
   | (with_reducible refine LeO.bind ?_ (fun _ => ?_))
   | exact ih0 _ _ _ _ _ _ _ _ _ _ _ _ _ _
   | exact ih1 _ _ _ _ _ _ _ _ _ _ _
   | exact ih2 _ _ _ _ _ _
   | exact ih3 _
   | exact ih4 _ _ _ _ _ _ _ _ _ _ _ _
   | exact ih5 _ _ _ _ _ _
   | exact ih6 _ _ _ _
   | exact ih7 _ _ _
   | exact ih8 _ _ _
   | exact ih9 _ _ _ _
   | exact ih10 _ _ _ _ _ _ _ _ _
   | exact ih11 _ _ _ _ _ _ _ _ _ _
   | exact ih12 _ _ _ _ _ _ _ _ _ _ _ _ _ _ _ _
   | exact impl_FewestMoves.mono _ _ _
   | exact impl_MiddleOf.mono _ _ _
   | exact impl_MovesText.mono _ _
   | exact impl_MovesToClear.mono _ _
   | exact impl_NextMove.mono _ _ _
   | exact impl_NumberOfState.mono _ _
   | exact impl_OtherEnd.mono _ _
   | exact impl_ParseMoves.mono _ _
   | exact impl_PlayMoves.mono _ _ _
   | exact impl_StatesBetween.mono _ _ _
   | exact impl_TimesMoved.mono _ _ _
   | exact impl_WayTo.mono _ _ _
   | exact laws_ySame.mono _ _ _
   | exact laws_ySum.mono _ _
   | exact laws_yTexts.mono _ _ _
   | exact spec_AllOn.mono _ _
   | exact spec_DrawMovesText.mono _ _
   | exact spec_DrawParseMoves.mono _ _
   | exact spec_DrawWayTo.mono _ _
   | exact spec_FewestMoves.mono _ _ _
   | exact spec_MiddleOf.mono _ _ _
   | exact spec_MovesText.mono _ _
   | exact spec_MovesToClear.mono _ _
   | exact spec_NextMove.mono _ _ _
   | exact spec_OtherEnd.mono _ _
   | exact spec_ParseMoves.mono _ _
   | exact spec_StatesBetween.mono _ _ _
   | exact spec_TimesMoved.mono _ _ _
   | exact spec_WayTo.mono _ _ _
   | exact LeO.none _
   | refine LeO.ite ?_ ?_
   | refine LeO.bind ?_ (fun _ => ?_)
  ·intro y0 y1 y2 y3
   unfold laws_FnWaysLead.j12
   repeat' first
   | (with_reducible exact ih0 _ _ _ _ _ _ _ _ _ _ _ _ _ _)
   | (with_reducible exact ih1 _ _ _ _ _ _ _ _ _ _ _)
   | (with_reducible exact ih2 _ _ _ _ _ _)
   | (with_reducible exact ih3 _)
   | (with_reducible exact ih4 _ _ _ _ _ _ _ _ _ _ _ _)
   | (with_reducible exact ih5 _ _ _ _ _ _)
   | (with_reducible exact ih6 _ _ _ _)
   | (with_reducible exact ih7 _ _ _)
   | (with_reducible exact ih8 _ _ _)
   | (with_reducible exact ih9 _ _ _ _)
   | (with_reducible exact ih10 _ _ _ _ _ _ _ _ _)
   | (with_reducible exact ih11 _ _ _ _ _ _ _ _ _ _)
   | (with_reducible exact ih12 _ _ _ _ _ _ _ _ _ _ _ _ _ _ _ _)
   | (with_reducible exact impl_FewestMoves.mono _ _ _)
   | (with_reducible exact impl_MiddleOf.mono _ _ _)
   | (with_reducible exact impl_MovesText.mono _ _)
   | (with_reducible exact impl_MovesToClear.mono _ _)
   | (with_reducible exact impl_NextMove.mono _ _ _)
   | (with_reducible exact impl_NumberOfState.mono _ _)
   | (with_reducible exact impl_OtherEnd.mono _ _)
   | (with_reducible exact impl_ParseMoves.mono _ _)
   | (with_reducible exact impl_PlayMoves.mono _ _ _)
   | (with_reducible exact impl_StatesBetween.mono _ _ _)
   | (with_reducible exact impl_TimesMoved.mono _ _ _)
   | (with_reducible exact impl_WayTo.mono _ _ _)
   | (with_reducible exact laws_ySame.mono _ _ _)
   | (with_reducible exact laws_ySum.mono _ _)
   | (with_reducible exact laws_yTexts.mono _ _ _)
   | (with_reducible exact spec_AllOn.mono _ _)
   | (with_reducible exact spec_DrawMovesText.mono _ _)
   | (with_reducible exact spec_DrawParseMoves.mono _ _)
   | (with_reducible exact spec_DrawWayTo.mono _ _)
   | (with_reducible exact spec_FewestMoves.mono _ _ _)
   | (with_reducible exact spec_MiddleOf.mono _ _ _)
   | (with_reducible exact spec_MovesText.mono _ _)
   | (with_reducible exact spec_MovesToClear.mono _ _)
   | (with_reducible exact spec_NextMove.mono _ _ _)
   | (with_reducible exact spec_OtherEnd.mono _ _)
   | (with_reducible exact spec_ParseMoves.mono _ _)
   | (with_reducible exact spec_StatesBetween.mono _ _ _)
   | (with_reducible exact spec_TimesMoved.mono _ _ _)
   | (with_reducible exact spec_WayTo.mono _ _ _)
   | (with_reducible exact LeO.refl _)
   | (with_reducible exact LeO.none _)
   | (with_reducible refine LeO.ite ?_ ?_)
   | (with_reducible refine LeO.bind ?_ (fun _ => ?_))
   | exact ih0 _ _ _ _ _ _ _ _ _ _ _ _ _ _
   | exact ih1 _ _ _ _ _ _ _ _ _ _ _
   | exact ih2 _ _ _ _ _ _
   | exact ih3 _
   | exact ih4 _ _ _ _ _ _ _ _ _ _ _ _
   | exact ih5 _ _ _ _ _ _
   | exact ih6 _ _ _ _
   | exact ih7 _ _ _
   | exact ih8 _ _ _
   | exact ih9 _ _ _ _
   | exact ih10 _ _ _ _ _ _ _ _ _
   | exact ih11 _ _ _ _ _ _ _ _ _ _
   | exact ih12 _ _ _ _ _ _ _ _ _ _ _ _ _ _ _ _
   | exact impl_FewestMoves.mono _ _ _
   | exact impl_MiddleOf.mono _ _ _
   | exact impl_MovesText.mono _ _
   | exact impl_MovesToClear.mono _ _
   | exact impl_NextMove.mono _ _ _
   | exact impl_NumberOfState.mono _ _
   | exact impl_OtherEnd.mono _ _
   | exact impl_ParseMoves.mono _ _
   | exact impl_PlayMoves.mono _ _ _
   | exact impl_StatesBetween.mono _ _ _
   | exact impl_TimesMoved.mono _ _ _
   | exact impl_WayTo.mono _ _ _
   | exact laws_ySame.mono _ _ _
   | exact laws_ySum.mono _ _
   | exact laws_yTexts.mono _ _ _
   | exact spec_AllOn.mono _ _
   | exact spec_DrawMovesText.mono _ _
   | exact spec_DrawParseMoves.mono _ _
   | exact spec_DrawWayTo.mono _ _
   | exact spec_FewestMoves.mono _ _ _
   | exact spec_MiddleOf.mono _ _ _
   | exact spec_MovesText.mono _ _
   | exact spec_MovesToClear.mono _ _
   | exact spec_NextMove.mono _ _ _
   | exact spec_OtherEnd.mono _ _
   | exact spec_ParseMoves.mono _ _
   | exact spec_StatesBetween.mono _ _ _
   | exact spec_TimesMoved.mono _ _ _
   | exact spec_WayTo.mono _ _ _
   | exact LeO.none _
   | refine LeO.ite ?_ ?_
   | refine LeO.bind ?_ (fun _ => ?_)
  ·intro y0 y1 y2
   unfold laws_FnWaysLead.j6
   repeat' first
   | (with_reducible exact ih0 _ _ _ _ _ _ _ _ _ _ _ _ _ _)
   | (with_reducible exact ih1 _ _ _ _ _ _ _ _ _ _ _)
   | (with_reducible exact ih2 _ _ _ _ _ _)
   | (with_reducible exact ih3 _)
   | (with_reducible exact ih4 _ _ _ _ _ _ _ _ _ _ _ _)
   | (with_reducible exact ih5 _ _ _ _ _ _)
   | (with_reducible exact ih6 _ _ _ _)
   | (with_reducible exact ih7 _ _ _)
   | (with_reducible exact ih8 _ _ _)
   | (with_reducible exact ih9 _ _ _ _)
   | (with_reducible exact ih10 _ _ _ _ _ _ _ _ _)
   | (with_reducible exact ih11 _ _ _ _ _ _ _ _ _ _)
   | (with_reducible exact ih12 _ _ _ _ _ _ _ _ _ _ _ _ _ _ _ _)
   | (with_reducible exact impl_FewestMoves.mono _ _ _)
   | (with_reducible exact impl_MiddleOf.mono _ _ _)
   | (with_reducible exact impl_MovesText.mono _ _)
   | (with_reducible exact impl_MovesToClear.mono _ _)
   | (with_reducible exact impl_NextMove.mono _ _ _)
   | (with_reducible exact impl_NumberOfState.mono _ _)
   | (with_reducible exact impl_OtherEnd.mono _ _)
   | (with_reducible exact impl_ParseMoves.mono _ _)
   | (with_reducible exact impl_PlayMoves.mono _ _ _)
   | (with_reducible exact impl_StatesBetween.mono _ _ _)
   | (with_reducible exact impl_TimesMoved.mono _ _ _)
   | (with_reducible exact impl_WayTo.mono _ _ _)
   | (with_reducible exact laws_ySame.mono _ _ _)
   | (with_reducible exact laws_ySum.mono _ _)
   | (with_reducible exact laws_yTexts.mono _ _ _)
   | (with_reducible exact spec_AllOn.mono _ _)
   | (with_reducible exact spec_DrawMovesText.mono _ _)
   | (with_reducible exact spec_DrawParseMoves.mono _ _)
   | (with_reducible exact spec_DrawWayTo.mono _ _)
   | (with_reducible exact spec_FewestMoves.mono _ _ _)
   | (with_reducible exact spec_MiddleOf.mono _ _ _)
   | (with_reducible exact spec_MovesText.mono _ _)
   | (with_reducible exact spec_MovesToClear.mono _ _)
   | (with_reducible exact spec_NextMove.mono _ _ _)
   | (with_reducible exact spec_OtherEnd.mono _ _)
   | (with_reducible exact spec_ParseMoves.mono _ _)
   | (with_reducible exact spec_StatesBetween.mono _ _ _)
   | (with_reducible exact spec_TimesMoved.mono _ _ _)
   | (with_reducible exact spec_WayTo.mono _ _ _)
   | (with_reducible exact LeO.refl _)
   | (with_reducible exact LeO.none _)
   | (with_reducible refine LeO.ite ?_ ?_)
   | (with_reducible refine LeO.bind ?_ (fun _ => ?_))
   | exact ih0 _ _ _ _ _ _ _ _ _ _ _ _ _ _
   | exact ih1 _ _ _ _ _ _ _ _ _ _ _
   | exact ih2 _ _ _ _ _ _
   | exact ih3 _
   | exact ih4 _ _ _ _ _ _ _ _ _ _ _ _
   | exact ih5 _ _ _ _ _ _
   | exact ih6 _ _ _ _
   | exact ih7 _ _ _
   | exact ih8 _ _ _
   | exact ih9 _ _ _ _
   | exact ih10 _ _ _ _ _ _ _ _ _
   | exact ih11 _ _ _ _ _ _ _ _ _ _
   | exact ih12 _ _ _ _ _ _ _ _ _ _ _ _ _ _ _ _
   | exact impl_FewestMoves.mono _ _ _
   | exact impl_MiddleOf.mono _ _ _
   | exact impl_MovesText.mono _ _
   | exact impl_MovesToClear.mono _ _
   | exact impl_NextMove.mono _ _ _
   | exact impl_NumberOfState.mono _ _
   | exact impl_OtherEnd.mono _ _
   | exact impl_ParseMoves.mono _ _
   | exact impl_PlayMoves.mono _ _ _
   | exact impl_StatesBetween.mono _ _ _
   | exact impl_TimesMoved.mono _ _ _
   | exact impl_WayTo.mono _ _ _
   | exact laws_ySame.mono _ _ _
   | exact laws_ySum.mono _ _
   | exact laws_yTexts.mono _ _ _
   | exact spec_AllOn.mono _ _
   | exact spec_DrawMovesText.mono _ _
   | exact spec_DrawParseMoves.mono _ _
   | exact spec_DrawWayTo.mono _ _
   | exact spec_FewestMoves.mono _ _ _
   | exact spec_MiddleOf.mono _ _ _
   | exact spec_MovesText.mono _ _
   | exact spec_MovesToClear.mono _ _
   | exact spec_NextMove.mono _ _ _
   | exact spec_OtherEnd.mono _ _
   | exact spec_ParseMoves.mono _ _
   | exact spec_StatesBetween.mono _ _ _
   | exact spec_TimesMoved.mono _ _ _
   | exact spec_WayTo.mono _ _ _
   | exact LeO.none _
   | refine LeO.ite ?_ ?_
   | refine LeO.bind ?_ (fun _ => ?_)
  ·intro y0 y1 y2
   unfold laws_FnWaysLead.l2
   repeat' first
   | (with_reducible exact ih0 _ _ _ _ _ _ _ _ _ _ _ _ _ _)
   | (with_reducible exact ih1 _ _ _ _ _ _ _ _ _ _ _)
   | (with_reducible exact ih2 _ _ _ _ _ _)
   | (with_reducible exact ih3 _)
   | (with_reducible exact ih4 _ _ _ _ _ _ _ _ _ _ _ _)
   | (with_reducible exact ih5 _ _ _ _ _ _)
   | (with_reducible exact ih6 _ _ _ _)
   | (with_reducible exact ih7 _ _ _)
   | (with_reducible exact ih8 _ _ _)
   | (with_reducible exact ih9 _ _ _ _)
   | (with_reducible exact ih10 _ _ _ _ _ _ _ _ _)
   | (with_reducible exact ih11 _ _ _ _ _ _ _ _ _ _)
   | (with_reducible exact ih12 _ _ _ _ _ _ _ _ _ _ _ _ _ _ _ _)
   | (with_reducible exact impl_FewestMoves.mono _ _ _)
   | (with_reducible exact impl_MiddleOf.mono _ _ _)
   | (with_reducible exact impl_MovesText.mono _ _)
   | (with_reducible exact impl_MovesToClear.mono _ _)
   | (with_reducible exact impl_NextMove.mono _ _ _)
   | (with_reducible exact impl_NumberOfState.mono _ _)
   | (with_reducible exact impl_OtherEnd.mono _ _)
   | (with_reducible exact impl_ParseMoves.mono _ _)
   | (with_reducible exact impl_PlayMoves.mono _ _ _)
   | (with_reducible exact impl_StatesBetween.mono _ _ _)
   | (with_reducible exact impl_TimesMoved.mono _ _ _)
   | (with_reducible exact impl_WayTo.mono _ _ _)
   | (with_reducible exact laws_ySame.mono _ _ _)
   | (with_reducible exact laws_ySum.mono _ _)
   | (with_reducible exact laws_yTexts.mono _ _ _)
   | (with_reducible exact spec_AllOn.mono _ _)
   | (with_reducible exact spec_DrawMovesText.mono _ _)
   | (with_reducible exact spec_DrawParseMoves.mono _ _)
   | (with_reducible exact spec_DrawWayTo.mono _ _)
   | (with_reducible exact spec_FewestMoves.mono _ _ _)
   | (with_reducible exact spec_MiddleOf.mono _ _ _)
   | (with_reducible exact spec_MovesText.mono _ _)
   | (with_reducible exact spec_MovesToClear.mono _ _)
   | (with_reducible exact spec_NextMove.mono _ _ _)
   | (with_reducible exact spec_OtherEnd.mono _ _)
   | (with_reducible exact spec_ParseMoves.mono _ _)
   | (with_reducible exact spec_StatesBetween.mono _ _ _)
   | (with_reducible exact spec_TimesMoved.mono _ _ _)
   | (with_reducible exact spec_WayTo.mono _ _ _)
   | (with_reducible exact LeO.refl _)
   | (with_reducible exact LeO.none _)
   | (with_reducible refine LeO.ite ?_ ?_)
   | (with_reducible refine LeO.bind ?_ (fun _ => ?_))
   | exact ih0 _ _ _ _ _ _ _ _ _ _ _ _ _ _
   | exact ih1 _ _ _ _ _ _ _ _ _ _ _
   | exact ih2 _ _ _ _ _ _
   | exact ih3 _
   | exact ih4 _ _ _ _ _ _ _ _ _ _ _ _
   | exact ih5 _ _ _ _ _ _
   | exact ih6 _ _ _ _
   | exact ih7 _ _ _
   | exact ih8 _ _ _
   | exact ih9 _ _ _ _
   | exact ih10 _ _ _ _ _ _ _ _ _
   | exact ih11 _ _ _ _ _ _ _ _ _ _
   | exact ih12 _ _ _ _ _ _ _ _ _ _ _ _ _ _ _ _
   | exact impl_FewestMoves.mono _ _ _
   | exact impl_MiddleOf.mono _ _ _
   | exact impl_MovesText.mono _ _
   | exact impl_MovesToClear.mono _ _
   | exact impl_NextMove.mono _ _ _
   | exact impl_NumberOfState.mono _ _
   | exact impl_OtherEnd.mono _ _
   | exact impl_ParseMoves.mono _ _
   | exact impl_PlayMoves.mono _ _ _
   | exact impl_StatesBetween.mono _ _ _
   | exact impl_TimesMoved.mono _ _ _
   | exact impl_WayTo.mono _ _ _
   | exact laws_ySame.mono _ _ _
   | exact laws_ySum.mono _ _
   | exact laws_yTexts.mono _ _ _
   | exact spec_AllOn.mono _ _
   | exact spec_DrawMovesText.mono _ _
   | exact spec_DrawParseMoves.mono _ _
   | exact spec_DrawWayTo.mono _ _
   | exact spec_FewestMoves.mono _ _ _
   | exact spec_MiddleOf.mono _ _ _
   | exact spec_MovesText.mono _ _
   | exact spec_MovesToClear.mono _ _
   | exact spec_NextMove.mono _ _ _
   | exact spec_OtherEnd.mono _ _
   | exact spec_ParseMoves.mono _ _
   | exact spec_StatesBetween.mono _ _ _
   | exact spec_TimesMoved.mono _ _ _
   | exact spec_WayTo.mono _ _ _
   | exact LeO.none _
   | refine LeO.ite ?_ ?_
   | refine LeO.bind ?_ (fun _ => ?_)
  ·intro y0 y1 y2 y3
   unfold laws_FnWaysLead.j8
   repeat' first
   | (with_reducible exact ih0 _ _ _ _ _ _ _ _ _ _ _ _ _ _)
   | (with_reducible exact ih1 _ _ _ _ _ _ _ _ _ _ _)
   | (with_reducible exact ih2 _ _ _ _ _ _)
   | (with_reducible exact ih3 _)
   | (with_reducible exact ih4 _ _ _ _ _ _ _ _ _ _ _ _)
   | (with_reducible exact ih5 _ _ _ _ _ _)
   | (with_reducible exact ih6 _ _ _ _)
   | (with_reducible exact ih7 _ _ _)
   | (with_reducible exact ih8 _ _ _)
   | (with_reducible exact ih9 _ _ _ _)
   | (with_reducible exact ih10 _ _ _ _ _ _ _ _ _)
   | (with_reducible exact ih11 _ _ _ _ _ _ _ _ _ _)
   | (with_reducible exact ih12 _ _ _ _ _ _ _ _ _ _ _ _ _ _ _ _)
   | (with_reducible exact impl_FewestMoves.mono _ _ _)
   | (with_reducible exact impl_MiddleOf.mono _ _ _)
   | (with_reducible exact impl_MovesText.mono _ _)
   | (with_reducible exact impl_MovesToClear.mono _ _)
   | (with_reducible exact impl_NextMove.mono _ _ _)
   | (with_reducible exact impl_NumberOfState.mono _ _)
   | (with_reducible exact impl_OtherEnd.mono _ _)
   | (with_reducible exact impl_ParseMoves.mono _ _)
   | (with_reducible exact impl_PlayMoves.mono _ _ _)
   | (with_reducible exact impl_StatesBetween.mono _ _ _)
   | (with_reducible exact impl_TimesMoved.mono _ _ _)
   | (with_reducible exact impl_WayTo.mono _ _ _)
   | (with_reducible exact laws_ySame.mono _ _ _)
   | (with_reducible exact laws_ySum.mono _ _)
   | (with_reducible exact laws_yTexts.mono _ _ _)
   | (with_reducible exact spec_AllOn.mono _ _)
   | (with_reducible exact spec_DrawMovesText.mono _ _)
   | (with_reducible exact spec_DrawParseMoves.mono _ _)
   | (with_reducible exact spec_DrawWayTo.mono _ _)
   | (with_reducible exact spec_FewestMoves.mono _ _ _)
   | (with_reducible exact spec_MiddleOf.mono _ _ _)
   | (with_reducible exact spec_MovesText.mono _ _)
   | (with_reducible exact spec_MovesToClear.mono _ _)
   | (with_reducible exact spec_NextMove.mono _ _ _)
   | (with_reducible exact spec_OtherEnd.mono _ _)
   | (with_reducible exact spec_ParseMoves.mono _ _)
   | (with_reducible exact spec_StatesBetween.mono _ _ _)
   | (with_reducible exact spec_TimesMoved.mono _ _ _)
   | (with_reducible exact spec_WayTo.mono _ _ _)
   | (with_reducible exact LeO.refl _)
   | (with_reducible exact LeO.none _)
   | (with_reducible refine LeO.ite ?_ ?_)
   | (with_reducible refine LeO.bind ?_ (fun _ => ?_))
   | exact ih0 _ _ _ _ _ _ _ _ _ _ _ _ _ _
   | exact ih1 _ _ _ _ _ _ _ _ _ _ _
   | exact ih2 _ _ _ _ _ _
   | exact ih3 _
   | exact ih4 _ _ _ _ _ _ _ _ _ _ _ _
   | exact ih5 _ _ _ _ _ _
   | exact ih6 _ _ _ _
   | exact ih7 _ _ _
   | exact ih8 _ _ _
   | exact ih9 _ _ _ _
   | exact ih10 _ _ _ _ _ _ _ _ _
   | exact ih11 _ _ _ _ _ _ _ _ _ _
   | exact ih12 _ _ _ _ _ _ _ _ _ _ _ _ _ _ _ _
   | exact impl_FewestMoves.mono _ _ _
   | exact impl_MiddleOf.mono _ _ _
   | exact impl_MovesText.mono _ _
   | exact impl_MovesToClear.mono _ _
   | exact impl_NextMove.mono _ _ _
   | exact impl_NumberOfState.mono _ _
   | exact impl_OtherEnd.mono _ _
   | exact impl_ParseMoves.mono _ _
   | exact impl_PlayMoves.mono _ _ _
   | exact impl_StatesBetween.mono _ _ _
   | exact impl_TimesMoved.mono _ _ _
   | exact impl_WayTo.mono _ _ _
   | exact laws_ySame.mono _ _ _
   | exact laws_ySum.mono _ _
   | exact laws_yTexts.mono _ _ _
   | exact spec_AllOn.mono _ _
   | exact spec_DrawMovesText.mono _ _
   | exact spec_DrawParseMoves.mono _ _
   | exact spec_DrawWayTo.mono _ _
   | exact spec_FewestMoves.mono _ _ _
   | exact spec_MiddleOf.mono _ _ _
   | exact spec_MovesText.mono _ _
   | exact spec_MovesToClear.mono _ _
   | exact spec_NextMove.mono _ _ _
   | exact spec_OtherEnd.mono _ _
   | exact spec_ParseMoves.mono _ _
   | exact spec_StatesBetween.mono _ _ _
   | exact spec_TimesMoved.mono _ _ _
   | exact spec_WayTo.mono _ _ _
   | exact LeO.none _
   | refine LeO.ite ?_ ?_
   | refine LeO.bind ?_ (fun _ => ?_)
  ·intro y0 y1 y2 y3 y4 y5 y6 y7 y8
   unfold laws_FnWaysLead.j2
   repeat' first
   | (with_reducible exact ih0 _ _ _ _ _ _ _ _ _ _ _ _ _ _)
   | (with_reducible exact ih1 _ _ _ _ _ _ _ _ _ _ _)
   | (with_reducible exact ih2 _ _ _ _ _ _)
   | (with_reducible exact ih3 _)
   | (with_reducible exact ih4 _ _ _ _ _ _ _ _ _ _ _ _)
   | (with_reducible exact ih5 _ _ _ _ _ _)
   | (with_reducible exact ih6 _ _ _ _)
   | (with_reducible exact ih7 _ _ _)
   | (with_reducible exact ih8 _ _ _)
   | (with_reducible exact ih9 _ _ _ _)
   | (with_reducible exact ih10 _ _ _ _ _ _ _ _ _)
   | (with_reducible exact ih11 _ _ _ _ _ _ _ _ _ _)
   | (with_reducible exact ih12 _ _ _ _ _ _ _ _ _ _ _ _ _ _ _ _)
   | (with_reducible exact impl_FewestMoves.mono _ _ _)
   | (with_reducible exact impl_MiddleOf.mono _ _ _)
   | (with_reducible exact impl_MovesText.mono _ _)
   | (with_reducible exact impl_MovesToClear.mono _ _)
   | (with_reducible exact impl_NextMove.mono _ _ _)
   | (with_reducible exact impl_NumberOfState.mono _ _)
   | (with_reducible exact impl_OtherEnd.mono _ _)
   | (with_reducible exact impl_ParseMoves.mono _ _)
   | (with_reducible exact impl_PlayMoves.mono _ _ _)
   | (with_reducible exact impl_StatesBetween.mono _ _ _)
   | (with_reducible exact impl_TimesMoved.mono _ _ _)
   | (with_reducible exact impl_WayTo.mono _ _ _)
   | (with_reducible exact laws_ySame.mono _ _ _)
   | (with_reducible exact laws_ySum.mono _ _)
   | (with_reducible exact laws_yTexts.mono _ _ _)
   | (with_reducible exact spec_AllOn.mono _ _)
   | (with_reducible exact spec_DrawMovesText.mono _ _)
   | (with_reducible exact spec_DrawParseMoves.mono _ _)
   | (with_reducible exact spec_DrawWayTo.mono _ _)
   | (with_reducible exact spec_FewestMoves.mono _ _ _)
   | (with_reducible exact spec_MiddleOf.mono _ _ _)
   | (with_reducible exact spec_MovesText.mono _ _)
   | (with_reducible exact spec_MovesToClear.mono _ _)
   | (with_reducible exact spec_NextMove.mono _ _ _)
   | (with_reducible exact spec_OtherEnd.mono _ _)
   | (with_reducible exact spec_ParseMoves.mono _ _)
   | (with_reducible exact spec_StatesBetween.mono _ _ _)
   | (with_reducible exact spec_TimesMoved.mono _ _ _)
   | (with_reducible exact spec_WayTo.mono _ _ _)
   | (with_reducible exact LeO.refl _)
   | (with_reducible exact LeO.none _)
   | (with_reducible refine LeO.ite ?_ ?_)
   | (with_reducible refine LeO.bind ?_ (fun _ => ?_))
   | exact ih0 _ _ _ _ _ _ _ _ _ _ _ _ _ _
   | exact ih1 _ _ _ _ _ _ _ _ _ _ _
   | exact ih2 _ _ _ _ _ _
   | exact ih3 _
   | exact ih4 _ _ _ _ _ _ _ _ _ _ _ _
   | exact ih5 _ _ _ _ _ _
   | exact ih6 _ _ _ _
   | exact ih7 _ _ _
   | exact ih8 _ _ _
   | exact ih9 _ _ _ _
   | exact ih10 _ _ _ _ _ _ _ _ _
   | exact ih11 _ _ _ _ _ _ _ _ _ _
   | exact ih12 _ _ _ _ _ _ _ _ _ _ _ _ _ _ _ _
   | exact impl_FewestMoves.mono _ _ _
   | exact impl_MiddleOf.mono _ _ _
   | exact impl_MovesText.mono _ _
   | exact impl_MovesToClear.mono _ _
   | exact impl_NextMove.mono _ _ _
   | exact impl_NumberOfState.mono _ _
   | exact impl_OtherEnd.mono _ _
   | exact impl_ParseMoves.mono _ _
   | exact impl_PlayMoves.mono _ _ _
   | exact impl_StatesBetween.mono _ _ _
   | exact impl_TimesMoved.mono _ _ _
   | exact impl_WayTo.mono _ _ _
   | exact laws_ySame.mono _ _ _
   | exact laws_ySum.mono _ _
   | exact laws_yTexts.mono _ _ _
   | exact spec_AllOn.mono _ _
   | exact spec_DrawMovesText.mono _ _
   | exact spec_DrawParseMoves.mono _ _
   | exact spec_DrawWayTo.mono _ _
   | exact spec_FewestMoves.mono _ _ _
   | exact spec_MiddleOf.mono _ _ _
   | exact spec_MovesText.mono _ _
   | exact spec_MovesToClear.mono _ _
   | exact spec_NextMove.mono _ _ _
   | exact spec_OtherEnd.mono _ _
   | exact spec_ParseMoves.mono _ _
   | exact spec_StatesBetween.mono _ _ _
   | exact spec_TimesMoved.mono _ _ _
   | exact spec_WayTo.mono _ _ _
   | exact LeO.none _
   | refine LeO.ite ?_ ?_
   | refine LeO.bind ?_ (fun _ => ?_)
  ·intro y0 y1 y2 y3 y4 y5 y6 y7 y8 y9
   unfold laws_FnWaysLead.l0
   repeat' first
   | (with_reducible exact ih0 _ _ _ _ _ _ _ _ _ _ _ _ _ _)
   | (with_reducible exact ih1 _ _ _ _ _ _ _ _ _ _ _)
   | (with_reducible exact ih2 _ _ _ _ _ _)
   | (with_reducible exact ih3 _)
   | (with_reducible exact ih4 _ _ _ _ _ _ _ _ _ _ _ _)
   | (with_reducible exact ih5 _ _ _ _ _ _)
   | (with_reducible exact ih6 _ _ _ _)
   | (with_reducible exact ih7 _ _ _)
   | (with_reducible exact ih8 _ _ _)
   | (with_reducible exact ih9 _ _ _ _)
   | (with_reducible exact ih10 _ _ _ _ _ _ _ _ _)
   | (with_reducible exact ih11 _ _ _ _ _ _ _ _ _ _)
   | (with_reducible exact ih12 _ _ _ _ _ _ _ _ _ _ _ _ _ _ _ _)
   | (with_reducible exact impl_FewestMoves.mono _ _ _)
   | (with_reducible exact impl_MiddleOf.mono _ _ _)
   | (with_reducible exact impl_MovesText.mono _ _)
   | (with_reducible exact impl_MovesToClear.mono _ _)
   | (with_reducible exact impl_NextMove.mono _ _ _)
   | (with_reducible exact impl_NumberOfState.mono _ _)
   | (with_reducible exact impl_OtherEnd.mono _ _)
   | (with_reducible exact impl_ParseMoves.mono _ _)
   | (with_reducible exact impl_PlayMoves.mono _ _ _)
   | (with_reducible exact impl_StatesBetween.mono _ _ _)
   | (with_reducible exact impl_TimesMoved.mono _ _ _)
   | (with_reducible exact impl_WayTo.mono _ _ _)
   | (with_reducible exact laws_ySame.mono _ _ _)
   | (with_reducible exact laws_ySum.mono _ _)
   | (with_reducible exact laws_yTexts.mono _ _ _)
   | (with_reducible exact spec_AllOn.mono _ _)
   | (with_reducible exact spec_DrawMovesText.mono _ _)
   | (with_reducible exact spec_DrawParseMoves.mono _ _)
   | (with_reducible exact spec_DrawWayTo.mono _ _)
   | (with_reducible exact spec_FewestMoves.mono _ _ _)
   | (with_reducible exact spec_MiddleOf.mono _ _ _)
   | (with_reducible exact spec_MovesText.mono _ _)
   | (with_reducible exact spec_MovesToClear.mono _ _)
   | (with_reducible exact spec_NextMove.mono _ _ _)
   | (with_reducible exact spec_OtherEnd.mono _ _)
   | (with_reducible exact spec_ParseMoves.mono _ _)
   | (with_reducible exact spec_StatesBetween.mono _ _ _)
   | (with_reducible exact spec_TimesMoved.mono _ _ _)
   | (with_reducible exact spec_WayTo.mono _ _ _)
   | (with_reducible exact LeO.refl _)
   | (with_reducible exact LeO.none _)
   | (with_reducible refine LeO.ite ?_ ?_)
   | (with_reducible refine LeO.bind ?_ (fun _ => ?_))
   | exact ih0 _ _ _ _ _ _ _ _ _ _ _ _ _ _
   | exact ih1 _ _ _ _ _ _ _ _ _ _ _
   | exact ih2 _ _ _ _ _ _
   | exact ih3 _
   | exact ih4 _ _ _ _ _ _ _ _ _ _ _ _
   | exact ih5 _ _ _ _ _ _
   | exact ih6 _ _ _ _
   | exact ih7 _ _ _
   | exact ih8 _ _ _
   | exact ih9 _ _ _ _
   | exact ih10 _ _ _ _ _ _ _ _ _
   | exact ih11 _ _ _ _ _ _ _ _ _ _
   | exact ih12 _ _ _ _ _ _ _ _ _ _ _ _ _ _ _ _
   | exact impl_FewestMoves.mono _ _ _
   | exact impl_MiddleOf.mono _ _ _
   | exact impl_MovesText.mono _ _
   | exact impl_MovesToClear.mono _ _
   | exact impl_NextMove.mono _ _ _
   | exact impl_NumberOfState.mono _ _
   | exact impl_OtherEnd.mono _ _
   | exact impl_ParseMoves.mono _ _
   | exact impl_PlayMoves.mono _ _ _
   | exact impl_StatesBetween.mono _ _ _
   | exact impl_TimesMoved.mono _ _ _
   | exact impl_WayTo.mono _ _ _
   | exact laws_ySame.mono _ _ _
   | exact laws_ySum.mono _ _
   | exact laws_yTexts.mono _ _ _
   | exact spec_AllOn.mono _ _
   | exact spec_DrawMovesText.mono _ _
   | exact spec_DrawParseMoves.mono _ _
   | exact spec_DrawWayTo.mono _ _
   | exact spec_FewestMoves.mono _ _ _
   | exact spec_MiddleOf.mono _ _ _
   | exact spec_MovesText.mono _ _
   | exact spec_MovesToClear.mono _ _
   | exact spec_NextMove.mono _ _ _
   | exact spec_OtherEnd.mono _ _
   | exact spec_ParseMoves.mono _ _
   | exact spec_StatesBetween.mono _ _ _
   | exact spec_TimesMoved.mono _ _ _
   | exact spec_WayTo.mono _ _ _
   | exact LeO.none _
   | refine LeO.ite ?_ ?_
   | refine LeO.bind ?_ (fun _ => ?_)
  ·intro y0 y1 y2 y3 y4 y5 y6 y7 y8 y9 y10 y11 y12 y13 y14 y15
   unfold laws_FnWaysLead.l1
   repeat' first
   | (with_reducible exact ih0 _ _ _ _ _ _ _ _ _ _ _ _ _ _)
   | (with_reducible exact ih1 _ _ _ _ _ _ _ _ _ _ _)
   | (with_reducible exact ih2 _ _ _ _ _ _)
   | (with_reducible exact ih3 _)
   | (with_reducible exact ih4 _ _ _ _ _ _ _ _ _ _ _ _)
   | (with_reducible exact ih5 _ _ _ _ _ _)
   | (with_reducible exact ih6 _ _ _ _)
   | (with_reducible exact ih7 _ _ _)
   | (with_reducible exact ih8 _ _ _)
   | (with_reducible exact ih9 _ _ _ _)
   | (with_reducible exact ih10 _ _ _ _ _ _ _ _ _)
   | (with_reducible exact ih11 _ _ _ _ _ _ _ _ _ _)
   | (with_reducible exact ih12 _ _ _ _ _ _ _ _ _ _ _ _ _ _ _ _)
   | (with_reducible exact impl_FewestMoves.mono _ _ _)
   | (with_reducible exact impl_MiddleOf.mono _ _ _)
   | (with_reducible exact impl_MovesText.mono _ _)
   | (with_reducible exact impl_MovesToClear.mono _ _)
   | (with_reducible exact impl_NextMove.mono _ _ _)
   | (with_reducible exact impl_NumberOfState.mono _ _)
   | (with_reducible exact impl_OtherEnd.mono _ _)
   | (with_reducible exact impl_ParseMoves.mono _ _)
   | (with_reducible exact impl_PlayMoves.mono _ _ _)
   | (with_reducible exact impl_StatesBetween.mono _ _ _)
   | (with_reducible exact impl_TimesMoved.mono _ _ _)
   | (with_reducible exact impl_WayTo.mono _ _ _)
   | (with_reducible exact laws_ySame.mono _ _ _)
   | (with_reducible exact laws_ySum.mono _ _)
   | (with_reducible exact laws_yTexts.mono _ _ _)
   | (with_reducible exact spec_AllOn.mono _ _)
   | (with_reducible exact spec_DrawMovesText.mono _ _)
   | (with_reducible exact spec_DrawParseMoves.mono _ _)
   | (with_reducible exact spec_DrawWayTo.mono _ _)
   | (with_reducible exact spec_FewestMoves.mono _ _ _)
   | (with_reducible exact spec_MiddleOf.mono _ _ _)
   | (with_reducible exact spec_MovesText.mono _ _)
   | (with_reducible exact spec_MovesToClear.mono _ _)
   | (with_reducible exact spec_NextMove.mono _ _ _)
   | (with_reducible exact spec_OtherEnd.mono _ _)
   | (with_reducible exact spec_ParseMoves.mono _ _)
   | (with_reducible exact spec_StatesBetween.mono _ _ _)
   | (with_reducible exact spec_TimesMoved.mono _ _ _)
   | (with_reducible exact spec_WayTo.mono _ _ _)
   | (with_reducible exact LeO.refl _)
   | (with_reducible exact LeO.none _)
   | (with_reducible refine LeO.ite ?_ ?_)
   | (with_reducible refine LeO.bind ?_ (fun _ => ?_))
   | exact ih0 _ _ _ _ _ _ _ _ _ _ _ _ _ _
   | exact ih1 _ _ _ _ _ _ _ _ _ _ _
   | exact ih2 _ _ _ _ _ _
   | exact ih3 _
   | exact ih4 _ _ _ _ _ _ _ _ _ _ _ _
   | exact ih5 _ _ _ _ _ _
   | exact ih6 _ _ _ _
   | exact ih7 _ _ _
   | exact ih8 _ _ _
   | exact ih9 _ _ _ _
   | exact ih10 _ _ _ _ _ _ _ _ _
   | exact ih11 _ _ _ _ _ _ _ _ _ _
   | exact ih12 _ _ _ _ _ _ _ _ _ _ _ _ _ _ _ _
   | exact impl_FewestMoves.mono _ _ _
   | exact impl_MiddleOf.mono _ _ _
   | exact impl_MovesText.mono _ _
   | exact impl_MovesToClear.mono _ _
   | exact impl_NextMove.mono _ _ _
   | exact impl_NumberOfState.mono _ _
   | exact impl_OtherEnd.mono _ _
   | exact impl_ParseMoves.mono _ _
   | exact impl_PlayMoves.mono _ _ _
   | exact impl_StatesBetween.mono _ _ _
   | exact impl_TimesMoved.mono _ _ _
   | exact impl_WayTo.mono _ _ _
   | exact laws_ySame.mono _ _ _
   | exact laws_ySum.mono _ _
   | exact laws_yTexts.mono _ _ _
   | exact spec_AllOn.mono _ _
   | exact spec_DrawMovesText.mono _ _
   | exact spec_DrawParseMoves.mono _ _
   | exact spec_DrawWayTo.mono _ _
   | exact spec_FewestMoves.mono _ _ _
   | exact spec_MiddleOf.mono _ _ _
   | exact spec_MovesText.mono _ _
   | exact spec_MovesToClear.mono _ _
   | exact spec_NextMove.mono _ _ _
   | exact spec_OtherEnd.mono _ _
   | exact spec_ParseMoves.mono _ _
   | exact spec_StatesBetween.mono _ _ _
   | exact spec_TimesMoved.mono _ _ _
   | exact spec_WayTo.mono _ _ _
   | exact LeO.none _
   | refine LeO.ite ?_ ?_
   | refine LeO.bind ?_ (fun _ => ?_)
theorem laws_FnWaysLead.mono : ∀ a0 a1 k, LeO (laws_FnWaysLead.f k a0 a1) (laws_FnWaysLead.f (k + 1) a0 a1) := by
 intro a0 a1 k
 obtain ⟨ih0, ih1, ih2, ih3, ih4, ih5, ih6, ih7, ih8, ih9, ih10, ih11, ih12⟩ := laws_FnWaysLead.mono_l k
 unfold laws_FnWaysLead.f
 repeat' first
   | (with_reducible exact ih0 _ _ _ _ _ _ _ _ _ _ _ _ _ _)
   | (with_reducible exact ih1 _ _ _ _ _ _ _ _ _ _ _)
   | (with_reducible exact ih2 _ _ _ _ _ _)
   | (with_reducible exact ih3 _)
   | (with_reducible exact ih4 _ _ _ _ _ _ _ _ _ _ _ _)
   | (with_reducible exact ih5 _ _ _ _ _ _)
   | (with_reducible exact ih6 _ _ _ _)
   | (with_reducible exact ih7 _ _ _)
   | (with_reducible exact ih8 _ _ _)
   | (with_reducible exact ih9 _ _ _ _)
   | (with_reducible exact ih10 _ _ _ _ _ _ _ _ _)
   | (with_reducible exact ih11 _ _ _ _ _ _ _ _ _ _)
   | (with_reducible exact ih12 _ _ _ _ _ _ _ _ _ _ _ _ _ _ _ _)
   | (with_reducible exact impl_FewestMoves.mono _ _ _)
   | (with_reducible exact impl_MiddleOf.mono _ _ _)
   | (with_reducible exact impl_MovesText.mono _ _)
   | (with_reducible exact impl_MovesToClear.mono _ _)
   | (with_reducible exact impl_NextMove.mono _ _ _)
   | (with_reducible exact impl_NumberOfState.mono _ _)
   | (with_reducible exact impl_OtherEnd.mono _ _)
   | (with_reducible exact impl_ParseMoves.mono _ _)
   | (with_reducible exact impl_PlayMoves.mono _ _ _)
   | (with_reducible exact impl_StatesBetween.mono _ _ _)
   | (with_reducible exact impl_TimesMoved.mono _ _ _)
   | (with_reducible exact impl_WayTo.mono _ _ _)
   | (with_reducible exact laws_ySame.mono _ _ _)
   | (with_reducible exact laws_ySum.mono _ _)
   | (with_reducible exact laws_yTexts.mono _ _ _)
   | (with_reducible exact spec_AllOn.mono _ _)
   | (with_reducible exact spec_DrawMovesText.mono _ _)
   | (with_reducible exact spec_DrawParseMoves.mono _ _)
   | (with_reducible exact spec_DrawWayTo.mono _ _)
   | (with_reducible exact spec_FewestMoves.mono _ _ _)
   | (with_reducible exact spec_MiddleOf.mono _ _ _)
   | (with_reducible exact spec_MovesText.mono _ _)
   | (with_reducible exact spec_MovesToClear.mono _ _)
   | (with_reducible exact spec_NextMove.mono _ _ _)
   | (with_reducible exact spec_OtherEnd.mono _ _)
   | (with_reducible exact spec_ParseMoves.mono _ _)
   | (with_reducible exact spec_StatesBetween.mono _ _ _)
   | (with_reducible exact spec_TimesMoved.mono _ _ _)
   | (with_reducible exact spec_WayTo.mono _ _ _)
   | (with_reducible exact LeO.refl _)
   | (with_reducible exact LeO.none _)
   | (with_reducible refine LeO.ite ?_ ?_)
   | (with_reducible refine LeO.bind ?_ (fun _ => ?_))
   | exact ih0 _ _ _ _ _ _ _ _ _ _ _ _ _ _
   | exact ih1 _ _ _ _ _ _ _ _ _ _ _
   | exact ih2 _ _ _ _ _ _
   | exact ih3 _
   | exact ih4 _ _ _ _ _ _ _ _ _ _ _ _
   | exact ih5 _ _ _ _ _ _
   | exact ih6 _ _ _ _
   | exact ih7 _ _ _
   | exact ih8 _ _ _
   | exact ih9 _ _ _ _
   | exact ih10 _ _ _ _ _ _ _ _ _
   | exact ih11 _ _ _ _ _ _ _ _ _ _
   | exact ih12 _ _ _ _ _ _ _ _ _ _ _ _ _ _ _ _
   | exact impl_FewestMoves.mono _ _ _
   | exact impl_MiddleOf.mono _ _ _
   | exact impl_MovesText.mono _ _
   | exact impl_MovesToClear.mono _ _
   | exact impl_NextMove.mono _ _ _
   | exact impl_NumberOfState.mono _ _
   | exact impl_OtherEnd.mono _ _
   | exact impl_ParseMoves.mono _ _
   | exact impl_PlayMoves.mono _ _ _
   | exact impl_StatesBetween.mono _ _ _
   | exact impl_TimesMoved.mono _ _ _
   | exact impl_WayTo.mono _ _ _
   | exact laws_ySame.mono _ _ _
   | exact laws_ySum.mono _ _
   | exact laws_yTexts.mono _ _ _
   | exact spec_AllOn.mono _ _
   | exact spec_DrawMovesText.mono _ _
   | exact spec_DrawParseMoves.mono _ _
   | exact spec_DrawWayTo.mono _ _
   | exact spec_FewestMoves.mono _ _ _
   | exact spec_MiddleOf.mono _ _ _
   | exact spec_MovesText.mono _ _
   | exact spec_MovesToClear.mono _ _
   | exact spec_NextMove.mono _ _ _
   | exact spec_OtherEnd.mono _ _
   | exact spec_ParseMoves.mono _ _
   | exact spec_StatesBetween.mono _ _ _
   | exact spec_TimesMoved.mono _ _ _
   | exact spec_WayTo.mono _ _ _
   | exact LeO.none _
   | refine LeO.ite ?_ ?_
   | refine LeO.bind ?_ (fun _ => ?_)
def laws_FnWaysLead.T48 : Bool × List (List Nat × List Nat) := (true, [([], []), ([], []), ([1], [1]), ([0, 2], [0, 2]), ([3], [3]), ([], []), ([], []), ([5, 6], [5, 6]), ([7], [7]), ([4, 8], [4, 8]), ([9], [9]), ([10], [10]), ([10], [10]), ([11, 9, 0, 1, 2, 3, 4, 5, 6, 7, 8, 9, 10, 11], [11]), ([12, 13, 0, 1, 2, 3, 4, 5, 6, 7, 8, 9, 10, 11, 12, 13], [12])])
def laws_FnWaysLead.B48 : List Nat := [0, 0, 2, 7, 15, 0, 0, 96, 224, 511, 1023, 2047, 2047, 4095, 16383]
theorem laws_FnWaysLead.tab48 : rtab .any (opsOf Tryz.f3 48) = laws_FnWaysLead.T48 := by kernel_rfl
theorem laws_FnWaysLead.bits48 : waitsOk laws_FnWaysLead.T48.2 laws_FnWaysLead.B48 = true := by kernel_rfl
def laws_FnWaysLead.Pure : Prop := ∀ (l0 : List Int) (l1 : List Int), l0.length ≤ maxLen → l0.length * 1 ≤ 140737488351232 → (∀ x ∈ l0, (Lit.int .u8 x).wf = true) → l1.length ≤ maxLen → l1.length * 1 ≤ 140737488351232 → (∀ x ∈ l1, (Lit.int .u8 x).wf = true) → ∃ k, laws_FnWaysLead.f k l0 l1 = some true
/-- what is left open, told apart from what holds -/
structure Hole (P : Prop) : Prop where mk :: (out : P)
abbrev o_ : Bool := false
abbrev i_ : Bool := true
/-- a frame in which the marked slots hold whatever f says -/
def maskF : List Bool → List Value → (Nat → Value) → Nat → List Value
 | [], l, _, _ => l
 | _ :: _, [], _, _ => []
 | true :: bs, _ :: l, f, i => f i :: maskF bs l f (i + 1)
 | false :: bs, x :: l, f, i => x :: maskF bs l f (i + 1)
/-- the frame l, its marked slots out of l' -/
def mergeF : List Bool → List Value → List Value → List Value
 | [], l, _ => l
 | _ :: _, [], _ => []
 | _ :: _, x :: l, [] => x :: l
 | true :: bs, _ :: l, y :: l' => y :: mergeF bs l l'
 | false :: bs, x :: l, _ :: l' => x :: mergeF bs l l'
def slotF : List Value → Nat → Value
 | [], _ => .bool false
 | x :: _, 0 => x
 | _ :: l, n + 1 => slotF l n
theorem mask_merge : ∀ (bs : List Bool) (l l' : List Value) (f : Nat → Value) (i : Nat), mergeF bs l l' = l' → (∀ j, f (i + j) = slotF l' j) → maskF bs l f i = l'
 | [], l, l', f, i, h, _ => by cases l <;> exact h
 | b :: bs, [], l', f, i, h, _ => by cases b <;> (first | exact h | (simp only [mergeF] at h; rw [← h]; rfl))
 | b :: bs, x :: l, [], f, i, h, _ => by cases b <;> simp [mergeF] at h
 | true :: bs, x :: l, y :: l', f, i, h, hf => by
  simp only [mergeF, List.cons.injEq, true_and] at h
  simp only [maskF]
  rw [mask_merge bs l l' f (i + 1) h (fun j => by rw [show i + 1 + j = i + (j + 1) by omega, hf]; rfl), show f i = y from hf 0]
 | false :: bs, x :: l, y :: l', f, i, h, hf => by
  simp only [mergeF, List.cons.injEq] at h
  simp only [maskF]
  rw [mask_merge bs l l' f (i + 1) h.2 (fun j => by rw [show i + 1 + j = i + (j + 1) by omega, hf]; rfl), h.1]
/-- ways that meet again: the slots that a statement may write are told by one function instead of a letter each -/
theorem wp_cutF {P : Program} {s : Code} {K : Act → World → Prop} {Q' : Exit → Act → World → Prop} {l : List Value} {w : World} (bs : List Bool) (R : (Nat → Value) → World → Prop)
  (rest : ∀ f w', R f w' → K ⟨(maskF bs l f 0).toArray, []⟩ w')
  (first : ∀ (J K' : Act → World → Prop), (∀ l' w', mergeF bs l l' = l' → R (slotF l') w' → J ⟨l'.toArray, []⟩ w') → (∀ a' w', Met J a' w' → K' a' w') → s.wp P (Exit.then K' Q') ⟨l.toArray, []⟩ w) : s.wp P (Exit.then K Q') ⟨l.toArray, []⟩ w := by
 refine wp_cut (fun a' w' => ∃ l', a' = ⟨l'.toArray, []⟩ ∧ mergeF bs l l' = l' ∧ R (slotF l') w') ?_ ?_
 ·rintro a' w' ⟨l', rfl, h1, h2⟩
  have := rest (slotF l') w' h2
  rwa [mask_merge bs l l' (slotF l') 0 h1 (fun j => by rw [Nat.zero_add])] at this
 ·intro J K' hJ hK
  exact first J K' (fun l' w' h1 h2 => hJ _ _ ⟨l', rfl, h1, h2⟩) hK
end Go.Proofs.YtddkffdjondjnaaGreatDoor.A
