-- written by a program of this session's over the kit's print (xp.py)
import Derived.Test.YtbklkcfmlmneaaaDoorAx0
import Derived.Test.YtbklkcfmlmneaaaDoorAx1
import Derived.Test.YtbklkcfmlmneaaaDoorAx2
import Derived.Test.YtbklkcfmlmneaaaDoorAx3
import Derived.Test.YtbklkcfmlmneaaaDoorAx4
import Derived.Test.YtbklkcfmlmneaaaDoorAx5
import Derived.Test.YtbklkcfmlmneaaaDoorAx6
-- halved
namespace Go.Proofs.YtbklkcfmlmneaaaDoor.A
-- slim
set_option maxHeartbeats 8000000
set_option maxRecDepth 100000
open Go.RowKit Go.Proofs.YtbklkcfmlmneaaaDoorW.PrintWords Go.Proofs.YtbklkcfmlmneaaaDoorW.PrintLast Go.Proofs.YtbklkcfmlmneaaaDoorW.PrintMore
attribute [local go_sem] max2_int min2_int max_two min_two max_three min_three max_four min_four   -- for this text's walks alone
set_option linter.unusedVariables false
set_option linter.unusedSimpArgs false

/-! ### laws_FnRingsMove: function 3 -/
mutual
def laws_FnRingsMove.j0 : Nat → List Int → ByteArray → List Int → Bool → Int → List ByteArray → Int → Bool → Option (Bool)
 | 0, _, _, _, _, _, _, _, _ => none
 | k + 1, x1, x5, x6, x7, x10, x18, x19, x191 => if x191 = true then (some false) else (if x7 = true then ((impl_StateOfNumber.f k (x5.size : Int) x10).bind fun bt342 => (if (x6.length : Int) < 1 then (laws_FnRingsMove.j1 k x1 x5 x6 x10 x18 x19 true) else (if (x6.length : Int) > 2 then (laws_FnRingsMove.j1 k x1 x5 x6 x10 x18 x19 true) else (if 0 < (x6.length : Int) then (if (rd x6 0) = 0 then (if x10 < 0 then (laws_FnRingsMove.j1 k x1 x5 x6 x10 x18 x19 true) else (if x10 ≥ (shl .i64 1 (x5.size : Int)) then (laws_FnRingsMove.j1 k x1 x5 x6 x10 x18 x19 true) else (if bt342.2 = true then (if bt342.1.toList = x5.toList then (if x10 = 0 then (if (((x6.length : Int) == 1) != true) = true then (laws_FnRingsMove.j1 k x1 x5 x6 x10 x18 x19 true) else (if (x18.length : Int) < 1 then (laws_FnRingsMove.j1 k x1 x5 x6 x10 x18 x19 true) else (laws_FnRingsMove.j1 k x1 x5 x6 x10 x18 x19 (decide ((x18.length : Int) > 2))))) else (if (((x6.length : Int) == 1) != (x10 == (wrap64 ((shl .i64 1 (x5.size : Int)) - 1)))) = true then (laws_FnRingsMove.j1 k x1 x5 x6 x10 x18 x19 true) else (if (x18.length : Int) < 1 then (laws_FnRingsMove.j1 k x1 x5 x6 x10 x18 x19 true) else (laws_FnRingsMove.j1 k x1 x5 x6 x10 x18 x19 (decide ((x18.length : Int) > 2)))))) else (laws_FnRingsMove.j1 k x1 x5 x6 x10 x18 x19 true)) else (laws_FnRingsMove.j1 k x1 x5 x6 x10 x18 x19 true)))) else (laws_FnRingsMove.j1 k x1 x5 x6 x10 x18 x19 true)) else (none))))) else (laws_FnRingsMove.j6 k x1))
def laws_FnRingsMove.j6 : Nat → List Int → Option (Bool)
 | 0, _ => none
 | k + 1, x1 => (spec_DrawPlayMoves.f k x1).bind fun bt356 => ((impl_PlayMoves.f k bt356.1 bt356.2).bind fun bt360 => ((spec_PlayMoves.f k bt356.1 bt356.2).bind fun bt362 => ((impl_MoveThatFails.f k bt356.1 bt356.2).bind fun bt364 => ((spec_MoveThatFails.f k bt356.1 bt356.2).bind fun bt366 => ((spec_DrawMoveRing.f k x1).bind fun bt368 => ((impl_MoveRing.f bt368.1 bt368.2).bind fun bt370 => ((spec_MoveRing.f k bt368.1 bt368.2).bind fun bt372 => ((spec_DrawStateOfNumber.f x1).bind fun bt374 => ((impl_StateOfNumber.f k bt374.1 bt374.2).bind fun bt376 => ((spec_StateOfNumber.f k bt374.1 bt374.2).bind fun bt378 => (if (bt360.2 != bt362.2) = true then (laws_FnRingsMove.j7 k bt356.1 bt356.2 bt360.1 bt360.2 bt364.1 bt364.2 bt374.1 bt374.2 bt376.1 bt376.2 true) else (if bt360.1.toList = bt362.1.toList then (if (bt364.2 != bt366.2) = true then (laws_FnRingsMove.j7 k bt356.1 bt356.2 bt360.1 bt360.2 bt364.1 bt364.2 bt374.1 bt374.2 bt376.1 bt376.2 true) else (if bt364.1 = bt366.1 then (if bt360.2 = true then (if bt364.2 = true then (laws_FnRingsMove.j7 k bt356.1 bt356.2 bt360.1 bt360.2 bt364.1 bt364.2 bt374.1 bt374.2 bt376.1 bt376.2 true) else (if (bt370.2 != bt372.2) = true then (laws_FnRingsMove.j7 k bt356.1 bt356.2 bt360.1 bt360.2 bt364.1 bt364.2 bt374.1 bt374.2 bt376.1 bt376.2 true) else (if bt370.1.toList = bt372.1.toList then (if (bt376.2 != bt378.2) = true then (laws_FnRingsMove.j7 k bt356.1 bt356.2 bt360.1 bt360.2 bt364.1 bt364.2 bt374.1 bt374.2 bt376.1 bt376.2 true) else (laws_FnRingsMove.j7 k bt356.1 bt356.2 bt360.1 bt360.2 bt364.1 bt364.2 bt374.1 bt374.2 bt376.1 bt376.2 (bt376.1.toList != bt378.1.toList))) else (laws_FnRingsMove.j7 k bt356.1 bt356.2 bt360.1 bt360.2 bt364.1 bt364.2 bt374.1 bt374.2 bt376.1 bt376.2 true)))) else (if (bt370.2 != bt372.2) = true then (laws_FnRingsMove.j7 k bt356.1 bt356.2 bt360.1 bt360.2 bt364.1 bt364.2 bt374.1 bt374.2 bt376.1 bt376.2 true) else (if bt370.1.toList = bt372.1.toList then (if (bt376.2 != bt378.2) = true then (laws_FnRingsMove.j7 k bt356.1 bt356.2 bt360.1 bt360.2 bt364.1 bt364.2 bt374.1 bt374.2 bt376.1 bt376.2 true) else (laws_FnRingsMove.j7 k bt356.1 bt356.2 bt360.1 bt360.2 bt364.1 bt364.2 bt374.1 bt374.2 bt376.1 bt376.2 (bt376.1.toList != bt378.1.toList))) else (laws_FnRingsMove.j7 k bt356.1 bt356.2 bt360.1 bt360.2 bt364.1 bt364.2 bt374.1 bt374.2 bt376.1 bt376.2 true)))) else (laws_FnRingsMove.j7 k bt356.1 bt356.2 bt360.1 bt360.2 bt364.1 bt364.2 bt374.1 bt374.2 bt376.1 bt376.2 true))) else (laws_FnRingsMove.j7 k bt356.1 bt356.2 bt360.1 bt360.2 bt364.1 bt364.2 bt374.1 bt374.2 bt376.1 bt376.2 true)))))))))))))
def laws_FnRingsMove.j7 : Nat → ByteArray → List Int → ByteArray → Bool → Int → Bool → Int → Int → ByteArray → Bool → Bool → Option (Bool)
 | 0, _, _, _, _, _, _, _, _, _, _, _ => none
 | k + 1, x39, x40, x41, x42, x45, x46, x55, x56, x57, x58, x448 => if x448 = true then (some false) else (if x42 = true then (laws_FnRingsMove.l3 k x39 x40 x41 x45 x46 x55 x56 x57 x58 x39 x40 (x40.length : Int) 0) else (laws_FnRingsMove.j9 k x39 x40 x45 x46 x55 x56 x57 x58))
def laws_FnRingsMove.j9 : Nat → ByteArray → List Int → Int → Bool → Int → Int → ByteArray → Bool → Option (Bool)
 | 0, _, _, _, _, _, _, _, _ => none
 | k + 1, x39, x40, x45, x46, x55, x56, x57, x58 => if x46 = true then (if 0 ≤ x45 then (if x45 ≤ (x40.length : Int) then ((impl_PlayMoves.f k x39 (x40.take (x45 : Int).toNat)).bind fun bt387 => (if bt387.2 = true then (if x45 < (x40.length : Int) then ((impl_MoveRing.f bt387.1 (rd x40 x45)).bind fun bt390 => (if bt390.2 = true then (some false) else (if x58 = true then ((impl_NumberOfState.f k x57).bind fun bt392 => (if bt392.2 = true then (if bt392.1 = x56 then (some ((x57.size : Int) == x55)) else (some false)) else (some false))) else (some true)))) else (none)) else (some false))) else (none)) else (none)) else (if x58 = true then ((impl_NumberOfState.f k x57).bind fun bt394 => (if bt394.2 = true then (if bt394.1 = x56 then (some ((x57.size : Int) == x55)) else (some false)) else (some false))) else (some true))
def laws_FnRingsMove.l3 : Nat → ByteArray → List Int → ByteArray → Int → Bool → Int → Int → ByteArray → Bool → ByteArray → List Int → Int → Int → Option (Bool)
 | 0, _, _, _, _, _, _, _, _, _, _, _, _, _ => none
 | k + 1, x39, x40, x41, x45, x46, x55, x56, x57, x58, x61, x451, x452, x453 => if x453 < x452 then (if 0 ≤ x453 then (if x453 < (x451.length : Int) then ((impl_MoveRing.f x61 (rd x451 x453)).bind fun bt381 => (if bt381.2 = true then (laws_FnRingsMove.l3 k x39 x40 x41 x45 x46 x55 x56 x57 x58 bt381.1 x451 x452 (wrap64 (x453 + 1))) else (some false))) else (none)) else (none)) else (if x61.toList = x41.toList then (laws_FnRingsMove.j9 k x39 x40 x45 x46 x55 x56 x57 x58) else (some false))
def laws_FnRingsMove.j1 : Nat → List Int → ByteArray → List Int → Int → List ByteArray → Int → Bool → Option (Bool)
 | 0, _, _, _, _, _, _, _ => none
 | k + 1, x1, x5, x6, x10, x18, x19, x259 => if x259 = true then (some false) else (laws_FnRingsMove.l0 k x1 x5 x10 x18 x19 x6 (x6.length : Int) 0)
def laws_FnRingsMove.l0 : Nat → List Int → ByteArray → Int → List ByteArray → Int → List Int → Int → Int → Option (Bool)
 | 0, _, _, _, _, _, _, _, _ => none
 | k + 1, x1, x5, x10, x18, x19, x260, x261, x262 => if x262 < x261 then (if 0 ≤ x262 then (if x262 < (x260.length : Int) then ((impl_MoveRing.f x5 (rd x260 x262)).bind fun bt346 => ((impl_MoveRing.f bt346.1 (rd x260 x262)).bind fun bt348 => ((impl_NumberOfState.f k bt346.1).bind fun bt350 => (if bt346.2 = true then (if bt348.2 = true then (if bt348.1.toList = x5.toList then (if bt350.2 = true then ((laws_yAbs.f (wrap64 (bt350.1 - x10))).bind fun t352 => (laws_FnRingsMove.j3 k x1 x5 x10 x18 x19 (rd x260 x262) bt346.1 x260 x261 x262 (t352 != 1))) else (laws_FnRingsMove.j3 k x1 x5 x10 x18 x19 (rd x260 x262) bt346.1 x260 x261 x262 true)) else (laws_FnRingsMove.j3 k x1 x5 x10 x18 x19 (rd x260 x262) bt346.1 x260 x261 x262 true)) else (laws_FnRingsMove.j3 k x1 x5 x10 x18 x19 (rd x260 x262) bt346.1 x260 x261 x262 true)) else (laws_FnRingsMove.j3 k x1 x5 x10 x18 x19 (rd x260 x262) bt346.1 x260 x261 x262 true))))) else (none)) else (none)) else (laws_FnRingsMove.l2 k x1 x5 x19 x18 (x18.length : Int) 0)
def laws_FnRingsMove.j3 : Nat → List Int → ByteArray → Int → List ByteArray → Int → Int → ByteArray → List Int → Int → Int → Bool → Option (Bool)
 | 0, _, _, _, _, _, _, _, _, _, _, _ => none
 | k + 1, x1, x5, x10, x18, x19, x27, x28, x260, x261, x262, x304 => if x304 = true then (some false) else (laws_FnRingsMove.l1 k x1 x5 x10 x18 x19 x27 x28 x260 x261 x262 x5 0)
def laws_FnRingsMove.l1 : Nat → List Int → ByteArray → Int → List ByteArray → Int → Int → ByteArray → List Int → Int → Int → ByteArray → Nat → Option (Bool)
 | 0, _, _, _, _, _, _, _, _, _, _, _, _ => none
 | k + 1, x1, x5, x10, x18, x19, x27, x28, x260, x261, x262, x305, x306 => if (x306 : Int) < (x305.size : Int) then (if 0 ≤ (x306 : Int) then (if bt x305 (x306 : Int) < 128 then (if (x306 : Int) < (x28.size : Int) then (if (x306 : Int) < (x5.size : Int) then (if (((bt x28 (x306 : Int)) != (bt x5 (x306 : Int))) != ((x306 : Int) == x27)) = true then (some false) else (laws_FnRingsMove.l1 k x1 x5 x10 x18 x19 x27 x28 x260 x261 x262 x305 (x306 + 1))) else (none)) else (none)) else (none)) else (none)) else (laws_FnRingsMove.l0 k x1 x5 x10 x18 x19 x260 x261 (wrap64 (x262 + 1)))
def laws_FnRingsMove.l2 : Nat → List Int → ByteArray → Int → List ByteArray → Int → Int → Option (Bool)
 | 0, _, _, _, _, _, _ => none
 | k + 1, x1, x5, x19, x322, x323, x324 => if x324 < x323 then (if 0 ≤ x324 then (if x324 < (x322.length : Int) then ((impl_FewestMoves.f k x5 (rdOf ByteArray.empty x322 x324)).bind fun bt354 => (if bt354.2 = true then (if bt354.1 = x19 then (laws_FnRingsMove.l2 k x1 x5 x19 x322 x323 (wrap64 (x324 + 1))) else (some false)) else (some false))) else (none)) else (none)) else (laws_FnRingsMove.j6 k x1)
end
def laws_FnRingsMove.f (k : Nat) (l0 : List Int) (l1 : List Int) : Option (Bool) := (laws_big.f l0 l1).bind fun t309 => (if t309 = true then (some true) else ((spec_DrawMovesOf.f k l0).bind fun t310 => ((impl_MovesOf.f k t310).bind fun bt311 => ((spec_MovesOf.f k t310).bind fun bt315 => ((impl_NumberOfState.f k t310).bind fun bt319 => ((spec_NumberOfState.f k t310).bind fun bt321 => ((impl_CountOn.f t310).bind fun bt323 => ((spec_CountOn.f k t310).bind fun bt325 => ((impl_FarthestFrom.f k t310).bind fun bt327 => ((spec_FarthestFrom.f k t310).bind fun bt332 => (if (bt311.2 != bt315.2) = true then (laws_FnRingsMove.j0 k l1 t310 bt311.1 bt311.2 bt319.1 bt327.1 bt327.2.1 true) else ((laws_ySame.f k bt311.1 bt315.1).bind fun t337 => (if t337 = true then (if (bt319.2 != bt321.2) = true then (laws_FnRingsMove.j0 k l1 t310 bt311.1 bt311.2 bt319.1 bt327.1 bt327.2.1 true) else (if bt319.1 = bt321.1 then (if (bt323.2 != bt325.2) = true then (laws_FnRingsMove.j0 k l1 t310 bt311.1 bt311.2 bt319.1 bt327.1 bt327.2.1 true) else (if bt323.1 = bt325.1 then (if (bt327.2.2 != bt332.2.2) = true then (laws_FnRingsMove.j0 k l1 t310 bt311.1 bt311.2 bt319.1 bt327.1 bt327.2.1 true) else ((laws_yTexts.f k bt327.1 bt332.1).bind fun t338 => (if t338 = true then (if bt327.2.1 = bt332.2.1 then ((impl_IsState.f t310).bind fun t339 => (if (bt311.2 != t339) = true then (laws_FnRingsMove.j0 k l1 t310 bt311.1 bt311.2 bt319.1 bt327.1 bt327.2.1 true) else ((impl_IsState.f t310).bind fun t340 => ((spec_IsState.f k t310).bind fun t341 => (if (t340 != t341) = true then (laws_FnRingsMove.j0 k l1 t310 bt311.1 bt311.2 bt319.1 bt327.1 bt327.2.1 true) else (if (bt319.2 != bt311.2) = true then (laws_FnRingsMove.j0 k l1 t310 bt311.1 bt311.2 bt319.1 bt327.1 bt327.2.1 true) else (if (bt323.2 != bt311.2) = true then (laws_FnRingsMove.j0 k l1 t310 bt311.1 bt311.2 bt319.1 bt327.1 bt327.2.1 true) else (laws_FnRingsMove.j0 k l1 t310 bt311.1 bt311.2 bt319.1 bt327.1 bt327.2.1 (bt327.2.2 != bt311.2))))))))) else (laws_FnRingsMove.j0 k l1 t310 bt311.1 bt311.2 bt319.1 bt327.1 bt327.2.1 true)) else (laws_FnRingsMove.j0 k l1 t310 bt311.1 bt311.2 bt319.1 bt327.1 bt327.2.1 true)))) else (laws_FnRingsMove.j0 k l1 t310 bt311.1 bt311.2 bt319.1 bt327.1 bt327.2.1 true))) else (laws_FnRingsMove.j0 k l1 t310 bt311.1 bt311.2 bt319.1 bt327.1 bt327.2.1 true))) else (laws_FnRingsMove.j0 k l1 t310 bt311.1 bt311.2 bt319.1 bt327.1 bt327.2.1 true))))))))))))))
theorem laws_FnRingsMove.mono_l : ∀ k, (∀ y0 y1 y2 y3 y4 y5 y6 y7, LeO (laws_FnRingsMove.j0 k y0 y1 y2 y3 y4 y5 y6 y7) (laws_FnRingsMove.j0 (k + 1) y0 y1 y2 y3 y4 y5 y6 y7)) ∧ (∀ y0, LeO (laws_FnRingsMove.j6 k y0) (laws_FnRingsMove.j6 (k + 1) y0)) ∧ (∀ y0 y1 y2 y3 y4 y5 y6 y7 y8 y9 y10, LeO (laws_FnRingsMove.j7 k y0 y1 y2 y3 y4 y5 y6 y7 y8 y9 y10) (laws_FnRingsMove.j7 (k + 1) y0 y1 y2 y3 y4 y5 y6 y7 y8 y9 y10)) ∧ (∀ y0 y1 y2 y3 y4 y5 y6 y7, LeO (laws_FnRingsMove.j9 k y0 y1 y2 y3 y4 y5 y6 y7) (laws_FnRingsMove.j9 (k + 1) y0 y1 y2 y3 y4 y5 y6 y7)) ∧ (∀ y0 y1 y2 y3 y4 y5 y6 y7 y8 y9 y10 y11 y12, LeO (laws_FnRingsMove.l3 k y0 y1 y2 y3 y4 y5 y6 y7 y8 y9 y10 y11 y12) (laws_FnRingsMove.l3 (k + 1) y0 y1 y2 y3 y4 y5 y6 y7 y8 y9 y10 y11 y12)) ∧ (∀ y0 y1 y2 y3 y4 y5 y6, LeO (laws_FnRingsMove.j1 k y0 y1 y2 y3 y4 y5 y6) (laws_FnRingsMove.j1 (k + 1) y0 y1 y2 y3 y4 y5 y6)) ∧ (∀ y0 y1 y2 y3 y4 y5 y6 y7, LeO (laws_FnRingsMove.l0 k y0 y1 y2 y3 y4 y5 y6 y7) (laws_FnRingsMove.l0 (k + 1) y0 y1 y2 y3 y4 y5 y6 y7)) ∧ (∀ y0 y1 y2 y3 y4 y5 y6 y7 y8 y9 y10, LeO (laws_FnRingsMove.j3 k y0 y1 y2 y3 y4 y5 y6 y7 y8 y9 y10) (laws_FnRingsMove.j3 (k + 1) y0 y1 y2 y3 y4 y5 y6 y7 y8 y9 y10)) ∧ (∀ y0 y1 y2 y3 y4 y5 y6 y7 y8 y9 y10 y11, LeO (laws_FnRingsMove.l1 k y0 y1 y2 y3 y4 y5 y6 y7 y8 y9 y10 y11) (laws_FnRingsMove.l1 (k + 1) y0 y1 y2 y3 y4 y5 y6 y7 y8 y9 y10 y11)) ∧ (∀ y0 y1 y2 y3 y4 y5, LeO (laws_FnRingsMove.l2 k y0 y1 y2 y3 y4 y5) (laws_FnRingsMove.l2 (k + 1) y0 y1 y2 y3 y4 y5))
 | 0 => ⟨fun _ _ _ _ _ _ _ _ r h => by simp [laws_FnRingsMove.j0] at h, fun _ r h => by simp [laws_FnRingsMove.j6] at h, fun _ _ _ _ _ _ _ _ _ _ _ r h => by simp [laws_FnRingsMove.j7] at h, fun _ _ _ _ _ _ _ _ r h => by simp [laws_FnRingsMove.j9] at h, fun _ _ _ _ _ _ _ _ _ _ _ _ _ r h => by simp [laws_FnRingsMove.l3] at h, fun _ _ _ _ _ _ _ r h => by simp [laws_FnRingsMove.j1] at h, fun _ _ _ _ _ _ _ _ r h => by simp [laws_FnRingsMove.l0] at h, fun _ _ _ _ _ _ _ _ _ _ _ r h => by simp [laws_FnRingsMove.j3] at h, fun _ _ _ _ _ _ _ _ _ _ _ _ r h => by simp [laws_FnRingsMove.l1] at h, fun _ _ _ _ _ _ r h => by simp [laws_FnRingsMove.l2] at h⟩
 | k + 1 => by
  obtain ⟨ih0, ih1, ih2, ih3, ih4, ih5, ih6, ih7, ih8, ih9⟩ := laws_FnRingsMove.mono_l k
  refine ⟨?_, ?_, ?_, ?_, ?_, ?_, ?_, ?_, ?_, ?_⟩
  ·intro y0 y1 y2 y3 y4 y5 y6 y7
   unfold laws_FnRingsMove.j0
   repeat' first
   | (with_reducible exact ih0 _ _ _ _ _ _ _ _)
   | (with_reducible exact ih1 _)
   | (with_reducible exact ih2 _ _ _ _ _ _ _ _ _ _ _)
   | (with_reducible exact ih3 _ _ _ _ _ _ _ _)
   | (with_reducible exact ih4 _ _ _ _ _ _ _ _ _ _ _ _ _)
   | (with_reducible exact ih5 _ _ _ _ _ _ _)
   | (with_reducible exact ih6 _ _ _ _ _ _ _ _)
   | (with_reducible exact ih7 _ _ _ _ _ _ _ _ _ _ _)
   | (with_reducible exact ih8 _ _ _ _ _ _ _ _ _ _ _ _)
   | (with_reducible exact ih9 _ _ _ _ _ _)
   | (with_reducible exact impl_FarthestFrom.mono _ _)
   | (with_reducible exact impl_FewestMoves.mono _ _ _)
   | (with_reducible exact impl_MoveThatFails.mono _ _ _)
   | (with_reducible exact impl_MovesOf.mono _ _)
   | (with_reducible exact impl_NumberOfState.mono _ _)
   | (with_reducible exact impl_PlayMoves.mono _ _ _)
   | (with_reducible exact impl_StateOfNumber.mono _ _ _)
   | (with_reducible exact laws_ySame.mono _ _ _)
   | (with_reducible exact laws_yTexts.mono _ _ _)
   | (with_reducible exact spec_CountOn.mono _ _)
   | (with_reducible exact spec_DrawMoveRing.mono _ _)
   | (with_reducible exact spec_DrawMovesOf.mono _ _)
   | (with_reducible exact spec_DrawPlayMoves.mono _ _)
   | (with_reducible exact spec_FarthestFrom.mono _ _)
   | (with_reducible exact spec_IsState.mono _ _)
   | (with_reducible exact spec_MoveRing.mono _ _ _)
   | (with_reducible exact spec_MoveThatFails.mono _ _ _)
   | (with_reducible exact spec_MovesOf.mono _ _)
   | (with_reducible exact spec_NumberOfState.mono _ _)
   | (with_reducible exact spec_PlayMoves.mono _ _ _)
   | (with_reducible exact spec_StateOfNumber.mono _ _ _)
   | (with_reducible exact LeO.refl _)
   | (with_reducible exact LeO.none _)
   | (with_reducible refine LeO.ite ?_ ?_)
   | (with_reducible refine LeO.bind ?_ (fun _ => ?_))
   | exact ih0 _ _ _ _ _ _ _ _
   | exact ih1 _
   | exact ih2 _ _ _ _ _ _ _ _ _ _ _
   | exact ih3 _ _ _ _ _ _ _ _
   | exact ih4 _ _ _ _ _ _ _ _ _ _ _ _ _
   | exact ih5 _ _ _ _ _ _ _
   | exact ih6 _ _ _ _ _ _ _ _
   | exact ih7 _ _ _ _ _ _ _ _ _ _ _
   | exact ih8 _ _ _ _ _ _ _ _ _ _ _ _
   | exact ih9 _ _ _ _ _ _
   | exact impl_FarthestFrom.mono _ _
   | exact impl_FewestMoves.mono _ _ _
   | exact impl_MoveThatFails.mono _ _ _
   | exact impl_MovesOf.mono _ _
   | exact impl_NumberOfState.mono _ _
   | exact impl_PlayMoves.mono _ _ _
   | exact impl_StateOfNumber.mono _ _ _
   | exact laws_ySame.mono _ _ _
   | exact laws_yTexts.mono _ _ _
   | exact spec_CountOn.mono _ _
   | exact spec_DrawMoveRing.mono _ _
   | exact spec_DrawMovesOf.mono _ _
   | exact spec_DrawPlayMoves.mono _ _
   | exact spec_FarthestFrom.mono _ _
   | exact spec_IsState.mono _ _
   | exact spec_MoveRing.mono _ _ _
   | exact spec_MoveThatFails.mono _ _ _
   | exact spec_MovesOf.mono _ _
   | exact spec_NumberOfState.mono _ _
   | exact spec_PlayMoves.mono _ _ _
   | exact spec_StateOfNumber.mono _ _ _
   | exact LeO.none _
   | refine LeO.ite ?_ ?_
   | refine LeO.bind ?_ (fun _ => ?_)
  ·intro y0
   unfold laws_FnRingsMove.j6
   repeat' first
   | (with_reducible exact ih0 _ _ _ _ _ _ _ _)
   | (with_reducible exact ih1 _)
   | (with_reducible exact ih2 _ _ _ _ _ _ _ _ _ _ _)
   | (with_reducible exact ih3 _ _ _ _ _ _ _ _)
   | (with_reducible exact ih4 _ _ _ _ _ _ _ _ _ _ _ _ _)
   | (with_reducible exact ih5 _ _ _ _ _ _ _)
   | (with_reducible exact ih6 _ _ _ _ _ _ _ _)
   | (with_reducible exact ih7 _ _ _ _ _ _ _ _ _ _ _)
   | (with_reducible exact ih8 _ _ _ _ _ _ _ _ _ _ _ _)
   | (with_reducible exact ih9 _ _ _ _ _ _)
   | (with_reducible exact impl_FarthestFrom.mono _ _)
   | (with_reducible exact impl_FewestMoves.mono _ _ _)
   | (with_reducible exact impl_MoveThatFails.mono _ _ _)
   | (with_reducible exact impl_MovesOf.mono _ _)
   | (with_reducible exact impl_NumberOfState.mono _ _)
   | (with_reducible exact impl_PlayMoves.mono _ _ _)
   | (with_reducible exact impl_StateOfNumber.mono _ _ _)
   | (with_reducible exact laws_ySame.mono _ _ _)
   | (with_reducible exact laws_yTexts.mono _ _ _)
   | (with_reducible exact spec_CountOn.mono _ _)
   | (with_reducible exact spec_DrawMoveRing.mono _ _)
   | (with_reducible exact spec_DrawMovesOf.mono _ _)
   | (with_reducible exact spec_DrawPlayMoves.mono _ _)
   | (with_reducible exact spec_FarthestFrom.mono _ _)
   | (with_reducible exact spec_IsState.mono _ _)
   | (with_reducible exact spec_MoveRing.mono _ _ _)
   | (with_reducible exact spec_MoveThatFails.mono _ _ _)
   | (with_reducible exact spec_MovesOf.mono _ _)
   | (with_reducible exact spec_NumberOfState.mono _ _)
   | (with_reducible exact spec_PlayMoves.mono _ _ _)
   | (with_reducible exact spec_StateOfNumber.mono _ _ _)
   | (with_reducible exact LeO.refl _)
   | (with_reducible exact LeO.none _)
   | (with_reducible refine LeO.ite ?_ ?_)
   | (with_reducible refine LeO.bind ?_ (fun _ => ?_))
   | exact ih0 _ _ _ _ _ _ _ _
   | exact ih1 _
   | exact ih2 _ _ _ _ _ _ _ _ _ _ _
   | exact ih3 _ _ _ _ _ _ _ _
   | exact ih4 _ _ _ _ _ _ _ _ _ _ _ _ _
   | exact ih5 _ _ _ _ _ _ _
   | exact ih6 _ _ _ _ _ _ _ _
   | exact ih7 _ _ _ _ _ _ _ _ _ _ _
   | exact ih8 _ _ _ _ _ _ _ _ _ _ _ _
   | exact ih9 _ _ _ _ _ _
   | exact impl_FarthestFrom.mono _ _
   | exact impl_FewestMoves.mono _ _ _
   | exact impl_MoveThatFails.mono _ _ _
   | exact impl_MovesOf.mono _ _
   | exact impl_NumberOfState.mono _ _
   | exact impl_PlayMoves.mono _ _ _
   | exact impl_StateOfNumber.mono _ _ _
   | exact laws_ySame.mono _ _ _
   | exact laws_yTexts.mono _ _ _
   | exact spec_CountOn.mono _ _
   | exact spec_DrawMoveRing.mono _ _
   | exact spec_DrawMovesOf.mono _ _
   | exact spec_DrawPlayMoves.mono _ _
   | exact spec_FarthestFrom.mono _ _
   | exact spec_IsState.mono _ _
   | exact spec_MoveRing.mono _ _ _
   | exact spec_MoveThatFails.mono _ _ _
   | exact spec_MovesOf.mono _ _
   | exact spec_NumberOfState.mono _ _
   | exact spec_PlayMoves.mono _ _ _
   | exact spec_StateOfNumber.mono _ _ _
   | exact LeO.none _
   | refine LeO.ite ?_ ?_
   | refine LeO.bind ?_ (fun _ => ?_)
  ·intro y0 y1 y2 y3 y4 y5 y6 y7 y8 y9 y10
   unfold laws_FnRingsMove.j7
   repeat' first
   | (with_reducible exact ih0 _ _ _ _ _ _ _ _)
   | (with_reducible exact ih1 _)
   | (with_reducible exact ih2 _ _ _ _ _ _ _ _ _ _ _)
   | (with_reducible exact ih3 _ _ _ _ _ _ _ _)
   | (with_reducible exact ih4 _ _ _ _ _ _ _ _ _ _ _ _ _)
   | (with_reducible exact ih5 _ _ _ _ _ _ _)
   | (with_reducible exact ih6 _ _ _ _ _ _ _ _)
   | (with_reducible exact ih7 _ _ _ _ _ _ _ _ _ _ _)
   | (with_reducible exact ih8 _ _ _ _ _ _ _ _ _ _ _ _)
   | (with_reducible exact ih9 _ _ _ _ _ _)
   | (with_reducible exact impl_FarthestFrom.mono _ _)
   | (with_reducible exact impl_FewestMoves.mono _ _ _)
   | (with_reducible exact impl_MoveThatFails.mono _ _ _)
   | (with_reducible exact impl_MovesOf.mono _ _)
   | (with_reducible exact impl_NumberOfState.mono _ _)
   | (with_reducible exact impl_PlayMoves.mono _ _ _)
   | (with_reducible exact impl_StateOfNumber.mono _ _ _)
   | (with_reducible exact laws_ySame.mono _ _ _)
   | (with_reducible exact laws_yTexts.mono _ _ _)
   | (with_reducible exact spec_CountOn.mono _ _)
   | (with_reducible exact spec_DrawMoveRing.mono _ _)
   | (with_reducible exact spec_DrawMovesOf.mono _ _)
   | (with_reducible exact spec_DrawPlayMoves.mono _ _)
   | (with_reducible exact spec_FarthestFrom.mono _ _)
   | (with_reducible exact spec_IsState.mono _ _)
   | (with_reducible exact spec_MoveRing.mono _ _ _)
   | (with_reducible exact spec_MoveThatFails.mono _ _ _)
   | (with_reducible exact spec_MovesOf.mono _ _)
   | (with_reducible exact spec_NumberOfState.mono _ _)
   | (with_reducible exact spec_PlayMoves.mono _ _ _)
   | (with_reducible exact spec_StateOfNumber.mono _ _ _)
   | (with_reducible exact LeO.refl _)
   | (with_reducible exact LeO.none _)
   | (with_reducible refine LeO.ite ?_ ?_)
   | (with_reducible refine LeO.bind ?_ (fun _ => ?_))
   | exact ih0 _ _ _ _ _ _ _ _
   | exact ih1 _
   | exact ih2 _ _ _ _ _ _ _ _ _ _ _
   | exact ih3 _ _ _ _ _ _ _ _
   | exact ih4 _ _ _ _ _ _ _ _ _ _ _ _ _
   | exact ih5 _ _ _ _ _ _ _
   | exact ih6 _ _ _ _ _ _ _ _
   | exact ih7 _ _ _ _ _ _ _ _ _ _ _
   | exact ih8 _ _ _ _ _ _ _ _ _ _ _ _
   | exact ih9 _ _ _ _ _ _
   | exact impl_FarthestFrom.mono _ _
   | exact impl_FewestMoves.mono _ _ _
   | exact impl_MoveThatFails.mono _ _ _
   | exact impl_MovesOf.mono _ _
   | exact impl_NumberOfState.mono _ _
   | exact impl_PlayMoves.mono _ _ _
   | exact impl_StateOfNumber.mono _ _ _
   | exact laws_ySame.mono _ _ _
   | exact laws_yTexts.mono _ _ _
   | exact spec_CountOn.mono _ _
   | exact spec_DrawMoveRing.mono _ _
   | exact spec_DrawMovesOf.mono _ _
   | exact spec_DrawPlayMoves.mono _ _
   | exact spec_FarthestFrom.mono _ _
   | exact spec_IsState.mono _ _
   | exact spec_MoveRing.mono _ _ _
   | exact spec_MoveThatFails.mono _ _ _
   | exact spec_MovesOf.mono _ _
   | exact spec_NumberOfState.mono _ _
   | exact spec_PlayMoves.mono _ _ _
   | exact spec_StateOfNumber.mono _ _ _
   | exact LeO.none _
   | refine LeO.ite ?_ ?_
   | refine LeO.bind ?_ (fun _ => ?_)
  ·intro y0 y1 y2 y3 y4 y5 y6 y7
   unfold laws_FnRingsMove.j9
   repeat' first
   | (with_reducible exact ih0 _ _ _ _ _ _ _ _)
   | (with_reducible exact ih1 _)
   | (with_reducible exact ih2 _ _ _ _ _ _ _ _ _ _ _)
   | (with_reducible exact ih3 _ _ _ _ _ _ _ _)
   | (with_reducible exact ih4 _ _ _ _ _ _ _ _ _ _ _ _ _)
   | (with_reducible exact ih5 _ _ _ _ _ _ _)
   | (with_reducible exact ih6 _ _ _ _ _ _ _ _)
   | (with_reducible exact ih7 _ _ _ _ _ _ _ _ _ _ _)
   | (with_reducible exact ih8 _ _ _ _ _ _ _ _ _ _ _ _)
   | (with_reducible exact ih9 _ _ _ _ _ _)
   | (with_reducible exact impl_FarthestFrom.mono _ _)
   | (with_reducible exact impl_FewestMoves.mono _ _ _)
   | (with_reducible exact impl_MoveThatFails.mono _ _ _)
   | (with_reducible exact impl_MovesOf.mono _ _)
   | (with_reducible exact impl_NumberOfState.mono _ _)
   | (with_reducible exact impl_PlayMoves.mono _ _ _)
   | (with_reducible exact impl_StateOfNumber.mono _ _ _)
   | (with_reducible exact laws_ySame.mono _ _ _)
   | (with_reducible exact laws_yTexts.mono _ _ _)
   | (with_reducible exact spec_CountOn.mono _ _)
   | (with_reducible exact spec_DrawMoveRing.mono _ _)
   | (with_reducible exact spec_DrawMovesOf.mono _ _)
   | (with_reducible exact spec_DrawPlayMoves.mono _ _)
   | (with_reducible exact spec_FarthestFrom.mono _ _)
   | (with_reducible exact spec_IsState.mono _ _)
   | (with_reducible exact spec_MoveRing.mono _ _ _)
   | (with_reducible exact spec_MoveThatFails.mono _ _ _)
   | (with_reducible exact spec_MovesOf.mono _ _)
   | (with_reducible exact spec_NumberOfState.mono _ _)
   | (with_reducible exact spec_PlayMoves.mono _ _ _)
   | (with_reducible exact spec_StateOfNumber.mono _ _ _)
   | (with_reducible exact LeO.refl _)
   | (with_reducible exact LeO.none _)
   | (with_reducible refine LeO.ite ?_ ?_)
   | (with_reducible refine LeO.bind ?_ (fun _ => ?_))
   | exact ih0 _ _ _ _ _ _ _ _
   | exact ih1 _
   | exact ih2 _ _ _ _ _ _ _ _ _ _ _
   | exact ih3 _ _ _ _ _ _ _ _
   | exact ih4 _ _ _ _ _ _ _ _ _ _ _ _ _
   | exact ih5 _ _ _ _ _ _ _
   | exact ih6 _ _ _ _ _ _ _ _
   | exact ih7 _ _ _ _ _ _ _ _ _ _ _
   | exact ih8 _ _ _ _ _ _ _ _ _ _ _ _
   | exact ih9 _ _ _ _ _ _
   | exact impl_FarthestFrom.mono _ _
   | exact impl_FewestMoves.mono _ _ _
   | exact impl_MoveThatFails.mono _ _ _
   | exact impl_MovesOf.mono _ _
   | exact impl_NumberOfState.mono _ _
   | exact impl_PlayMoves.mono _ _ _
   | exact impl_StateOfNumber.mono _ _ _
   | exact laws_ySame.mono _ _ _
   | exact laws_yTexts.mono _ _ _
   | exact spec_CountOn.mono _ _
   | exact spec_DrawMoveRing.mono _ _
   | exact spec_DrawMovesOf.mono _ _
   | exact spec_DrawPlayMoves.mono _ _
   | exact spec_FarthestFrom.mono _ _
   | exact spec_IsState.mono _ _
   | exact spec_MoveRing.mono _ _ _
   | exact spec_MoveThatFails.mono _ _ _
   | exact spec_MovesOf.mono _ _
   | exact spec_NumberOfState.mono _ _
   | exact spec_PlayMoves.mono _ _ _
   | exact spec_StateOfNumber.mono _ _ _
   | exact LeO.none _
   | refine LeO.ite ?_ ?_
   | refine LeO.bind ?_ (fun _ => ?_)
  ·intro y0 y1 y2 y3 y4 y5 y6 y7 y8 y9 y10 y11 y12
   unfold laws_FnRingsMove.l3
   repeat' first
   | (with_reducible exact ih0 _ _ _ _ _ _ _ _)
   | (with_reducible exact ih1 _)
   | (with_reducible exact ih2 _ _ _ _ _ _ _ _ _ _ _)
   | (with_reducible exact ih3 _ _ _ _ _ _ _ _)
   | (with_reducible exact ih4 _ _ _ _ _ _ _ _ _ _ _ _ _)
   | (with_reducible exact ih5 _ _ _ _ _ _ _)
   | (with_reducible exact ih6 _ _ _ _ _ _ _ _)
   | (with_reducible exact ih7 _ _ _ _ _ _ _ _ _ _ _)
   | (with_reducible exact ih8 _ _ _ _ _ _ _ _ _ _ _ _)
   | (with_reducible exact ih9 _ _ _ _ _ _)
   | (with_reducible exact impl_FarthestFrom.mono _ _)
   | (with_reducible exact impl_FewestMoves.mono _ _ _)
   | (with_reducible exact impl_MoveThatFails.mono _ _ _)
   | (with_reducible exact impl_MovesOf.mono _ _)
   | (with_reducible exact impl_NumberOfState.mono _ _)
   | (with_reducible exact impl_PlayMoves.mono _ _ _)
   | (with_reducible exact impl_StateOfNumber.mono _ _ _)
   | (with_reducible exact laws_ySame.mono _ _ _)
   | (with_reducible exact laws_yTexts.mono _ _ _)
   | (with_reducible exact spec_CountOn.mono _ _)
   | (with_reducible exact spec_DrawMoveRing.mono _ _)
   | (with_reducible exact spec_DrawMovesOf.mono _ _)
   | (with_reducible exact spec_DrawPlayMoves.mono _ _)
   | (with_reducible exact spec_FarthestFrom.mono _ _)
   | (with_reducible exact spec_IsState.mono _ _)
   | (with_reducible exact spec_MoveRing.mono _ _ _)
   | (with_reducible exact spec_MoveThatFails.mono _ _ _)
   | (with_reducible exact spec_MovesOf.mono _ _)
   | (with_reducible exact spec_NumberOfState.mono _ _)
   | (with_reducible exact spec_PlayMoves.mono _ _ _)
   | (with_reducible exact spec_StateOfNumber.mono _ _ _)
   | (with_reducible exact LeO.refl _)
   | (with_reducible exact LeO.none _)
   | (with_reducible refine LeO.ite ?_ ?_)
   | (with_reducible refine LeO.bind ?_ (fun _ => ?_))
   | exact ih0 _ _ _ _ _ _ _ _
   | exact ih1 _
   | exact ih2 _ _ _ _ _ _ _ _ _ _ _
   | exact ih3 _ _ _ _ _ _ _ _
   | exact ih4 _ _ _ _ _ _ _ _ _ _ _ _ _
   | exact ih5 _ _ _ _ _ _ _
   | exact ih6 _ _ _ _ _ _ _ _
   | exact ih7 _ _ _ _ _ _ _ _ _ _ _
   | exact ih8 _ _ _ _ _ _ _ _ _ _ _ _
   | exact ih9 _ _ _ _ _ _
   | exact impl_FarthestFrom.mono _ _
   | exact impl_FewestMoves.mono _ _ _
   | exact impl_MoveThatFails.mono _ _ _
   | exact impl_MovesOf.mono _ _
   | exact impl_NumberOfState.mono _ _
   | exact impl_PlayMoves.mono _ _ _
   | exact impl_StateOfNumber.mono _ _ _
   | exact laws_ySame.mono _ _ _
   | exact laws_yTexts.mono _ _ _
   | exact spec_CountOn.mono _ _
   | exact spec_DrawMoveRing.mono _ _
   | exact spec_DrawMovesOf.mono _ _
   | exact spec_DrawPlayMoves.mono _ _
   | exact spec_FarthestFrom.mono _ _
   | exact spec_IsState.mono _ _
   | exact spec_MoveRing.mono _ _ _
   | exact spec_MoveThatFails.mono _ _ _
   | exact spec_MovesOf.mono _ _
   | exact spec_NumberOfState.mono _ _
   | exact spec_PlayMoves.mono _ _ _
   | exact spec_StateOfNumber.mono _ _ _
   | exact LeO.none _
   | refine LeO.ite ?_ ?_
   | refine LeO.bind ?_ (fun _ => ?_)
  ·intro y0 y1 y2 y3 y4 y5 y6
   unfold laws_FnRingsMove.j1
   repeat' first
   | (with_reducible exact ih0 _ _ _ _ _ _ _ _)
   | (with_reducible exact ih1 _)
   | (with_reducible exact ih2 _ _ _ _ _ _ _ _ _ _ _)
   | (with_reducible exact ih3 _ _ _ _ _ _ _ _)
   | (with_reducible exact ih4 _ _ _ _ _ _ _ _ _ _ _ _ _)
   | (with_reducible exact ih5 _ _ _ _ _ _ _)
   | (with_reducible exact ih6 _ _ _ _ _ _ _ _)
   | (with_reducible exact ih7 _ _ _ _ _ _ _ _ _ _ _)
   | (with_reducible exact ih8 _ _ _ _ _ _ _ _ _ _ _ _)
   | (with_reducible exact ih9 _ _ _ _ _ _)
   | (with_reducible exact impl_FarthestFrom.mono _ _)
   | (with_reducible exact impl_FewestMoves.mono _ _ _)
   | (with_reducible exact impl_MoveThatFails.mono _ _ _)
   | (with_reducible exact impl_MovesOf.mono _ _)
   | (with_reducible exact impl_NumberOfState.mono _ _)
   | (with_reducible exact impl_PlayMoves.mono _ _ _)
   | (with_reducible exact impl_StateOfNumber.mono _ _ _)
   | (with_reducible exact laws_ySame.mono _ _ _)
   | (with_reducible exact laws_yTexts.mono _ _ _)
   | (with_reducible exact spec_CountOn.mono _ _)
   | (with_reducible exact spec_DrawMoveRing.mono _ _)
   | (with_reducible exact spec_DrawMovesOf.mono _ _)
   | (with_reducible exact spec_DrawPlayMoves.mono _ _)
   | (with_reducible exact spec_FarthestFrom.mono _ _)
   | (with_reducible exact spec_IsState.mono _ _)
   | (with_reducible exact spec_MoveRing.mono _ _ _)
   | (with_reducible exact spec_MoveThatFails.mono _ _ _)
   | (with_reducible exact spec_MovesOf.mono _ _)
   | (with_reducible exact spec_NumberOfState.mono _ _)
   | (with_reducible exact spec_PlayMoves.mono _ _ _)
   | (with_reducible exact spec_StateOfNumber.mono _ _ _)
   | (with_reducible exact LeO.refl _)
   | (with_reducible exact LeO.none _)
   | (with_reducible refine LeO.ite ?_ ?_)
   | (with_reducible refine LeO.bind ?_ (fun _ => ?_))
   | exact ih0 _ _ _ _ _ _ _ _
   | exact ih1 _
   | exact ih2 _ _ _ _ _ _ _ _ _ _ _
   | exact ih3 _ _ _ _ _ _ _ _
   | exact ih4 _ _ _ _ _ _ _ _ _ _ _ _ _
   | exact ih5 _ _ _ _ _ _ _
   | exact ih6 _ _ _ _ _ _ _ _
   | exact ih7 _ _ _ _ _ _ _ _ _ _ _
   | exact ih8 _ _ _ _ _ _ _ _ _ _ _ _
   | exact ih9 _ _ _ _ _ _
   | exact impl_FarthestFrom.mono _ _
   | exact impl_FewestMoves.mono _ _ _
   | exact impl_MoveThatFails.mono _ _ _
   | exact impl_MovesOf.mono _ _
   | exact impl_NumberOfState.mono _ _
   | exact impl_PlayMoves.mono _ _ _
   | exact impl_StateOfNumber.mono _ _ _
   | exact laws_ySame.mono _ _ _
   | exact laws_yTexts.mono _ _ _
   | exact spec_CountOn.mono _ _
   | exact spec_DrawMoveRing.mono _ _
   | exact spec_DrawMovesOf.mono _ _
   | exact spec_DrawPlayMoves.mono _ _
   | exact spec_FarthestFrom.mono _ _
   | exact spec_IsState.mono _ _
   | exact spec_MoveRing.mono _ _ _
   | exact spec_MoveThatFails.mono _ _ _
   | exact spec_MovesOf.mono _ _
   | exact spec_NumberOfState.mono _ _
   | exact spec_PlayMoves.mono _ _ _
   | exact spec_StateOfNumber.mono _ _ _
   | exact LeO.none _
   | refine LeO.ite ?_ ?_
   | refine LeO.bind ?_ (fun _ => ?_)
  ·intro y0 y1 y2 y3 y4 y5 y6 y7
   unfold laws_FnRingsMove.l0
   repeat' first
   | (with_reducible exact ih0 _ _ _ _ _ _ _ _)
   | (with_reducible exact ih1 _)
   | (with_reducible exact ih2 _ _ _ _ _ _ _ _ _ _ _)
   | (with_reducible exact ih3 _ _ _ _ _ _ _ _)
   | (with_reducible exact ih4 _ _ _ _ _ _ _ _ _ _ _ _ _)
   | (with_reducible exact ih5 _ _ _ _ _ _ _)
   | (with_reducible exact ih6 _ _ _ _ _ _ _ _)
   | (with_reducible exact ih7 _ _ _ _ _ _ _ _ _ _ _)
   | (with_reducible exact ih8 _ _ _ _ _ _ _ _ _ _ _ _)
   | (with_reducible exact ih9 _ _ _ _ _ _)
   | (with_reducible exact impl_FarthestFrom.mono _ _)
   | (with_reducible exact impl_FewestMoves.mono _ _ _)
   | (with_reducible exact impl_MoveThatFails.mono _ _ _)
   | (with_reducible exact impl_MovesOf.mono _ _)
   | (with_reducible exact impl_NumberOfState.mono _ _)
   | (with_reducible exact impl_PlayMoves.mono _ _ _)
   | (with_reducible exact impl_StateOfNumber.mono _ _ _)
   | (with_reducible exact laws_ySame.mono _ _ _)
   | (with_reducible exact laws_yTexts.mono _ _ _)
   | (with_reducible exact spec_CountOn.mono _ _)
   | (with_reducible exact spec_DrawMoveRing.mono _ _)
   | (with_reducible exact spec_DrawMovesOf.mono _ _)
   | (with_reducible exact spec_DrawPlayMoves.mono _ _)
   | (with_reducible exact spec_FarthestFrom.mono _ _)
   | (with_reducible exact spec_IsState.mono _ _)
   | (with_reducible exact spec_MoveRing.mono _ _ _)
   | (with_reducible exact spec_MoveThatFails.mono _ _ _)
   | (with_reducible exact spec_MovesOf.mono _ _)
   | (with_reducible exact spec_NumberOfState.mono _ _)
   | (with_reducible exact spec_PlayMoves.mono _ _ _)
   | (with_reducible exact spec_StateOfNumber.mono _ _ _)
   | (with_reducible exact LeO.refl _)
   | (with_reducible exact LeO.none _)
   | (with_reducible refine LeO.ite ?_ ?_)
   | (with_reducible refine LeO.bind ?_ (fun _ => ?_))
   | exact ih0 _ _ _ _ _ _ _ _
   | exact ih1 _
   | exact ih2 _ _ _ _ _ _ _ _ _ _ _
   | exact ih3 _ _ _ _ _ _ _ _
   | exact ih4 _ _ _ _ _ _ _ _ _ _ _ _ _
   | exact ih5 _ _ _ _ _ _ _
   | exact ih6 _ _ _ _ _ _ _ _
   | exact ih7 _ _ _ _ _ _ _ _ _ _ _
   | exact ih8 _ _ _ _ _ _ _ _ _ _ _ _
   | exact ih9 _ _ _ _ _ _
   | exact impl_FarthestFrom.mono _ _
   | exact impl_FewestMoves.mono _ _ _
   | exact impl_MoveThatFails.mono _ _ _
   | exact impl_MovesOf.mono _ _
   | exact impl_NumberOfState.mono _ _
   | exact impl_PlayMoves.mono _ _ _
   | exact impl_StateOfNumber.mono _ _ _
   | exact laws_ySame.mono _ _ _
   | exact laws_yTexts.mono _ _ _
   | exact spec_CountOn.mono _ _
   | exact spec_DrawMoveRing.mono _ _
   | exact spec_DrawMovesOf.mono _ _
   | exact spec_DrawPlayMoves.mono _ _
   | exact spec_FarthestFrom.mono _ _
   | exact spec_IsState.mono _ _
   | exact spec_MoveRing.mono _ _ _
   | exact spec_MoveThatFails.mono _ _ _
   | exact spec_MovesOf.mono _ _
   | exact spec_NumberOfState.mono _ _
   | exact spec_PlayMoves.mono _ _ _
   | exact spec_StateOfNumber.mono _ _ _
   | exact LeO.none _
   | refine LeO.ite ?_ ?_
   | refine LeO.bind ?_ (fun _ => ?_)
  ·intro y0 y1 y2 y3 y4 y5 y6 y7 y8 y9 y10
   unfold laws_FnRingsMove.j3
   repeat' first
   | (with_reducible exact ih0 _ _ _ _ _ _ _ _)
   | (with_reducible exact ih1 _)
   | (with_reducible exact ih2 _ _ _ _ _ _ _ _ _ _ _)
   | (with_reducible exact ih3 _ _ _ _ _ _ _ _)
   | (with_reducible exact ih4 _ _ _ _ _ _ _ _ _ _ _ _ _)
   | (with_reducible exact ih5 _ _ _ _ _ _ _)
   | (with_reducible exact ih6 _ _ _ _ _ _ _ _)
   | (with_reducible exact ih7 _ _ _ _ _ _ _ _ _ _ _)
   | (with_reducible exact ih8 _ _ _ _ _ _ _ _ _ _ _ _)
   | (with_reducible exact ih9 _ _ _ _ _ _)
   | (with_reducible exact impl_FarthestFrom.mono _ _)
   | (with_reducible exact impl_FewestMoves.mono _ _ _)
   | (with_reducible exact impl_MoveThatFails.mono _ _ _)
   | (with_reducible exact impl_MovesOf.mono _ _)
   | (with_reducible exact impl_NumberOfState.mono _ _)
   | (with_reducible exact impl_PlayMoves.mono _ _ _)
   | (with_reducible exact impl_StateOfNumber.mono _ _ _)
   | (with_reducible exact laws_ySame.mono _ _ _)
   | (with_reducible exact laws_yTexts.mono _ _ _)
   | (with_reducible exact spec_CountOn.mono _ _)
   | (with_reducible exact spec_DrawMoveRing.mono _ _)
   | (with_reducible exact spec_DrawMovesOf.mono _ _)
   | (with_reducible exact spec_DrawPlayMoves.mono _ _)
   | (with_reducible exact spec_FarthestFrom.mono _ _)
   | (with_reducible exact spec_IsState.mono _ _)
   | (with_reducible exact spec_MoveRing.mono _ _ _)
   | (with_reducible exact spec_MoveThatFails.mono _ _ _)
   | (with_reducible exact spec_MovesOf.mono _ _)
   | (with_reducible exact spec_NumberOfState.mono _ _)
   | (with_reducible exact spec_PlayMoves.mono _ _ _)
   | (with_reducible exact spec_StateOfNumber.mono _ _ _)
   | (with_reducible exact LeO.refl _)
   | (with_reducible exact LeO.none _)
   | (with_reducible refine LeO.ite ?_ ?_)
   | (with_reducible refine LeO.bind ?_ (fun _ => ?_))
   | exact ih0 _ _ _ _ _ _ _ _
   | exact ih1 _
   | exact ih2 _ _ _ _ _ _ _ _ _ _ _
   | exact ih3 _ _ _ _ _ _ _ _
   | exact ih4 _ _ _ _ _ _ _ _ _ _ _ _ _
   | exact ih5 _ _ _ _ _ _ _
   | exact ih6 _ _ _ _ _ _ _ _
   | exact ih7 _ _ _ _ _ _ _ _ _ _ _
   | exact ih8 _ _ _ _ _ _ _ _ _ _ _ _
   | exact ih9 _ _ _ _ _ _
   | exact impl_FarthestFrom.mono _ _
   | exact impl_FewestMoves.mono _ _ _
   | exact impl_MoveThatFails.mono _ _ _
   | exact impl_MovesOf.mono _ _
   | exact impl_NumberOfState.mono _ _
   | exact impl_PlayMoves.mono _ _ _
   | exact impl_StateOfNumber.mono _ _ _
   | exact laws_ySame.mono _ _ _
   | exact laws_yTexts.mono _ _ _
   | exact spec_CountOn.mono _ _
   | exact spec_DrawMoveRing.mono _ _
   | exact spec_DrawMovesOf.mono _ _
   | exact spec_DrawPlayMoves.mono _ _
   | exact spec_FarthestFrom.mono _ _
   | exact spec_IsState.mono _ _
   | exact spec_MoveRing.mono _ _ _
   | exact spec_MoveThatFails.mono _ _ _
   | exact spec_MovesOf.mono _ _
   | exact spec_NumberOfState.mono _ _
   | exact spec_PlayMoves.mono _ _ _
   | exact spec_StateOfNumber.mono _ _ _
   | exact LeO.none _
   | refine LeO.ite ?_ ?_
   | refine LeO.bind ?_ (fun _ => ?_)
  ·intro y0 y1 y2 y3 y4 y5 y6 y7 y8 y9 y10 y11
   unfold laws_FnRingsMove.l1
   repeat' first
   | (with_reducible exact ih0 _ _ _ _ _ _ _ _)
   | (with_reducible exact ih1 _)
   | (with_reducible exact ih2 _ _ _ _ _ _ _ _ _ _ _)
   | (with_reducible exact ih3 _ _ _ _ _ _ _ _)
   | (with_reducible exact ih4 _ _ _ _ _ _ _ _ _ _ _ _ _)
   | (with_reducible exact ih5 _ _ _ _ _ _ _)
   | (with_reducible exact ih6 _ _ _ _ _ _ _ _)
   | (with_reducible exact ih7 _ _ _ _ _ _ _ _ _ _ _)
   | (with_reducible exact ih8 _ _ _ _ _ _ _ _ _ _ _ _)
   | (with_reducible exact ih9 _ _ _ _ _ _)
   | (with_reducible exact impl_FarthestFrom.mono _ _)
   | (with_reducible exact impl_FewestMoves.mono _ _ _)
   | (with_reducible exact impl_MoveThatFails.mono _ _ _)
   | (with_reducible exact impl_MovesOf.mono _ _)
   | (with_reducible exact impl_NumberOfState.mono _ _)
   | (with_reducible exact impl_PlayMoves.mono _ _ _)
   | (with_reducible exact impl_StateOfNumber.mono _ _ _)
   | (with_reducible exact laws_ySame.mono _ _ _)
   | (with_reducible exact laws_yTexts.mono _ _ _)
   | (with_reducible exact spec_CountOn.mono _ _)
   | (with_reducible exact spec_DrawMoveRing.mono _ _)
   | (with_reducible exact spec_DrawMovesOf.mono _ _)
   | (with_reducible exact spec_DrawPlayMoves.mono _ _)
   | (with_reducible exact spec_FarthestFrom.mono _ _)
   | (with_reducible exact spec_IsState.mono _ _)
   | (with_reducible exact spec_MoveRing.mono _ _ _)
   | (with_reducible exact spec_MoveThatFails.mono _ _ _)
   | (with_reducible exact spec_MovesOf.mono _ _)
   | (with_reducible exact spec_NumberOfState.mono _ _)
   | (with_reducible exact spec_PlayMoves.mono _ _ _)
   | (with_reducible exact spec_StateOfNumber.mono _ _ _)
   | (with_reducible exact LeO.refl _)
   | (with_reducible exact LeO.none _)
   | (with_reducible refine LeO.ite ?_ ?_)
   | (with_reducible refine LeO.bind ?_ (fun _ => ?_))
   | exact ih0 _ _ _ _ _ _ _ _
   | exact ih1 _
   | exact ih2 _ _ _ _ _ _ _ _ _ _ _
   | exact ih3 _ _ _ _ _ _ _ _
   | exact ih4 _ _ _ _ _ _ _ _ _ _ _ _ _
   | exact ih5 _ _ _ _ _ _ _
   | exact ih6 _ _ _ _ _ _ _ _
   | exact ih7 _ _ _ _ _ _ _ _ _ _ _
   | exact ih8 _ _ _ _ _ _ _ _ _ _ _ _
   | exact ih9 _ _ _ _ _ _
   | exact impl_FarthestFrom.mono _ _
   | exact impl_FewestMoves.mono _ _ _
   | exact impl_MoveThatFails.mono _ _ _
   | exact impl_MovesOf.mono _ _
   | exact impl_NumberOfState.mono _ _
   | exact impl_PlayMoves.mono _ _ _
   | exact impl_StateOfNumber.mono _ _ _
   | exact laws_ySame.mono _ _ _
   | exact laws_yTexts.mono _ _ _
   | exact spec_CountOn.mono _ _
   | exact spec_DrawMoveRing.mono _ _
   | exact spec_DrawMovesOf.mono _ _
   | exact spec_DrawPlayMoves.mono _ _
   | exact spec_FarthestFrom.mono _ _
   | exact spec_IsState.mono _ _
   | exact spec_MoveRing.mono _ _ _
   | exact spec_MoveThatFails.mono _ _ _
   | exact spec_MovesOf.mono _ _
   | exact spec_NumberOfState.mono _ _
   | exact spec_PlayMoves.mono _ _ _
   | exact spec_StateOfNumber.mono _ _ _
   | exact LeO.none _
   | refine LeO.ite ?_ ?_
   | refine LeO.bind ?_ (fun _ => ?_)
  ·intro y0 y1 y2 y3 y4 y5
   unfold laws_FnRingsMove.l2
   repeat' first
   | (with_reducible exact ih0 _ _ _ _ _ _ _ _)
   | (with_reducible exact ih1 _)
   | (with_reducible exact ih2 _ _ _ _ _ _ _ _ _ _ _)
   | (with_reducible exact ih3 _ _ _ _ _ _ _ _)
   | (with_reducible exact ih4 _ _ _ _ _ _ _ _ _ _ _ _ _)
   | (with_reducible exact ih5 _ _ _ _ _ _ _)
   | (with_reducible exact ih6 _ _ _ _ _ _ _ _)
   | (with_reducible exact ih7 _ _ _ _ _ _ _ _ _ _ _)
   | (with_reducible exact ih8 _ _ _ _ _ _ _ _ _ _ _ _)
   | (with_reducible exact ih9 _ _ _ _ _ _)
   | (with_reducible exact impl_FarthestFrom.mono _ _)
   | (with_reducible exact impl_FewestMoves.mono _ _ _)
   | (with_reducible exact impl_MoveThatFails.mono _ _ _)
   | (with_reducible exact impl_MovesOf.mono _ _)
   | (with_reducible exact impl_NumberOfState.mono _ _)
   | (with_reducible exact impl_PlayMoves.mono _ _ _)
   | (with_reducible exact impl_StateOfNumber.mono _ _ _)
   | (with_reducible exact laws_ySame.mono _ _ _)
   | (with_reducible exact laws_yTexts.mono _ _ _)
   | (with_reducible exact spec_CountOn.mono _ _)
   | (with_reducible exact spec_DrawMoveRing.mono _ _)
   | (with_reducible exact spec_DrawMovesOf.mono _ _)
   | (with_reducible exact spec_DrawPlayMoves.mono _ _)
   | (with_reducible exact spec_FarthestFrom.mono _ _)
   | (with_reducible exact spec_IsState.mono _ _)
   | (with_reducible exact spec_MoveRing.mono _ _ _)
   | (with_reducible exact spec_MoveThatFails.mono _ _ _)
   | (with_reducible exact spec_MovesOf.mono _ _)
   | (with_reducible exact spec_NumberOfState.mono _ _)
   | (with_reducible exact spec_PlayMoves.mono _ _ _)
   | (with_reducible exact spec_StateOfNumber.mono _ _ _)
   | (with_reducible exact LeO.refl _)
   | (with_reducible exact LeO.none _)
   | (with_reducible refine LeO.ite ?_ ?_)
   | (with_reducible refine LeO.bind ?_ (fun _ => ?_))
   | exact ih0 _ _ _ _ _ _ _ _
   | exact ih1 _
   | exact ih2 _ _ _ _ _ _ _ _ _ _ _
   | exact ih3 _ _ _ _ _ _ _ _
   | exact ih4 _ _ _ _ _ _ _ _ _ _ _ _ _
   | exact ih5 _ _ _ _ _ _ _
   | exact ih6 _ _ _ _ _ _ _ _
   | exact ih7 _ _ _ _ _ _ _ _ _ _ _
   | exact ih8 _ _ _ _ _ _ _ _ _ _ _ _
   | exact ih9 _ _ _ _ _ _
   | exact impl_FarthestFrom.mono _ _
   | exact impl_FewestMoves.mono _ _ _
   | exact impl_MoveThatFails.mono _ _ _
   | exact impl_MovesOf.mono _ _
   | exact impl_NumberOfState.mono _ _
   | exact impl_PlayMoves.mono _ _ _
   | exact impl_StateOfNumber.mono _ _ _
   | exact laws_ySame.mono _ _ _
   | exact laws_yTexts.mono _ _ _
   | exact spec_CountOn.mono _ _
   | exact spec_DrawMoveRing.mono _ _
   | exact spec_DrawMovesOf.mono _ _
   | exact spec_DrawPlayMoves.mono _ _
   | exact spec_FarthestFrom.mono _ _
   | exact spec_IsState.mono _ _
   | exact spec_MoveRing.mono _ _ _
   | exact spec_MoveThatFails.mono _ _ _
   | exact spec_MovesOf.mono _ _
   | exact spec_NumberOfState.mono _ _
   | exact spec_PlayMoves.mono _ _ _
   | exact spec_StateOfNumber.mono _ _ _
   | exact LeO.none _
   | refine LeO.ite ?_ ?_
   | refine LeO.bind ?_ (fun _ => ?_)
theorem laws_FnRingsMove.mono : ∀ a0 a1 k, LeO (laws_FnRingsMove.f k a0 a1) (laws_FnRingsMove.f (k + 1) a0 a1) := by
 intro a0 a1 k
 obtain ⟨ih0, ih1, ih2, ih3, ih4, ih5, ih6, ih7, ih8, ih9⟩ := laws_FnRingsMove.mono_l k
 unfold laws_FnRingsMove.f
 repeat' first
   | (with_reducible exact ih0 _ _ _ _ _ _ _ _)
   | (with_reducible exact ih1 _)
   | (with_reducible exact ih2 _ _ _ _ _ _ _ _ _ _ _)
   | (with_reducible exact ih3 _ _ _ _ _ _ _ _)
   | (with_reducible exact ih4 _ _ _ _ _ _ _ _ _ _ _ _ _)
   | (with_reducible exact ih5 _ _ _ _ _ _ _)
   | (with_reducible exact ih6 _ _ _ _ _ _ _ _)
   | (with_reducible exact ih7 _ _ _ _ _ _ _ _ _ _ _)
   | (with_reducible exact ih8 _ _ _ _ _ _ _ _ _ _ _ _)
   | (with_reducible exact ih9 _ _ _ _ _ _)
   | (with_reducible exact impl_FarthestFrom.mono _ _)
   | (with_reducible exact impl_FewestMoves.mono _ _ _)
   | (with_reducible exact impl_MoveThatFails.mono _ _ _)
   | (with_reducible exact impl_MovesOf.mono _ _)
   | (with_reducible exact impl_NumberOfState.mono _ _)
   | (with_reducible exact impl_PlayMoves.mono _ _ _)
   | (with_reducible exact impl_StateOfNumber.mono _ _ _)
   | (with_reducible exact laws_ySame.mono _ _ _)
   | (with_reducible exact laws_yTexts.mono _ _ _)
   | (with_reducible exact spec_CountOn.mono _ _)
   | (with_reducible exact spec_DrawMoveRing.mono _ _)
   | (with_reducible exact spec_DrawMovesOf.mono _ _)
   | (with_reducible exact spec_DrawPlayMoves.mono _ _)
   | (with_reducible exact spec_FarthestFrom.mono _ _)
   | (with_reducible exact spec_IsState.mono _ _)
   | (with_reducible exact spec_MoveRing.mono _ _ _)
   | (with_reducible exact spec_MoveThatFails.mono _ _ _)
   | (with_reducible exact spec_MovesOf.mono _ _)
   | (with_reducible exact spec_NumberOfState.mono _ _)
   | (with_reducible exact spec_PlayMoves.mono _ _ _)
   | (with_reducible exact spec_StateOfNumber.mono _ _ _)
   | (with_reducible exact LeO.refl _)
   | (with_reducible exact LeO.none _)
   | (with_reducible refine LeO.ite ?_ ?_)
   | (with_reducible refine LeO.bind ?_ (fun _ => ?_))
   | exact ih0 _ _ _ _ _ _ _ _
   | exact ih1 _
   | exact ih2 _ _ _ _ _ _ _ _ _ _ _
   | exact ih3 _ _ _ _ _ _ _ _
   | exact ih4 _ _ _ _ _ _ _ _ _ _ _ _ _
   | exact ih5 _ _ _ _ _ _ _
   | exact ih6 _ _ _ _ _ _ _ _
   | exact ih7 _ _ _ _ _ _ _ _ _ _ _
   | exact ih8 _ _ _ _ _ _ _ _ _ _ _ _
   | exact ih9 _ _ _ _ _ _
   | exact impl_FarthestFrom.mono _ _
   | exact impl_FewestMoves.mono _ _ _
   | exact impl_MoveThatFails.mono _ _ _
   | exact impl_MovesOf.mono _ _
   | exact impl_NumberOfState.mono _ _
   | exact impl_PlayMoves.mono _ _ _
   | exact impl_StateOfNumber.mono _ _ _
   | exact laws_ySame.mono _ _ _
   | exact laws_yTexts.mono _ _ _
   | exact spec_CountOn.mono _ _
   | exact spec_DrawMoveRing.mono _ _
   | exact spec_DrawMovesOf.mono _ _
   | exact spec_DrawPlayMoves.mono _ _
   | exact spec_FarthestFrom.mono _ _
   | exact spec_IsState.mono _ _
   | exact spec_MoveRing.mono _ _ _
   | exact spec_MoveThatFails.mono _ _ _
   | exact spec_MovesOf.mono _ _
   | exact spec_NumberOfState.mono _ _
   | exact spec_PlayMoves.mono _ _ _
   | exact spec_StateOfNumber.mono _ _ _
   | exact LeO.none _
   | refine LeO.ite ?_ ?_
   | refine LeO.bind ?_ (fun _ => ?_)
def laws_FnRingsMove.Pure : Prop := ∀ (l0 : List Int) (l1 : List Int), l0.length ≤ maxLen → l0.length * 1 ≤ 140737488351232 → (∀ x ∈ l0, (Lit.int .u8 x).wf = true) → l1.length ≤ maxLen → l1.length * 1 ≤ 140737488351232 → (∀ x ∈ l1, (Lit.int .u8 x).wf = true) → ∃ k, laws_FnRingsMove.f k l0 l1 = some true
/-- what is left open, told apart from what holds -/
structure Hole (P : Prop) : Prop where mk :: (out : P)
abbrev o_ : Bool := false
abbrev i_ : Bool := true
/-- a frame in which the marked slots hold whatever f says -/
def maskF : List Bool → List Value → (Nat → Value) → Nat → List Value
 | [], l, _, _ => l
 | _ :: _, [], _, _ => []
 | true :: bs, _ :: l, f, i => f i :: maskF bs l f (i + 1)
 | false :: bs, x :: l, f, i => x :: maskF bs l f (i + 1)
/-- the frame l, its marked slots out of l' -/
def mergeF : List Bool → List Value → List Value → List Value
 | [], l, _ => l
 | _ :: _, [], _ => []
 | _ :: _, x :: l, [] => x :: l
 | true :: bs, _ :: l, y :: l' => y :: mergeF bs l l'
 | false :: bs, x :: l, _ :: l' => x :: mergeF bs l l'
def slotF : List Value → Nat → Value
 | [], _ => .bool false
 | x :: _, 0 => x
 | _ :: l, n + 1 => slotF l n
theorem mask_merge : ∀ (bs : List Bool) (l l' : List Value) (f : Nat → Value) (i : Nat), mergeF bs l l' = l' → (∀ j, f (i + j) = slotF l' j) → maskF bs l f i = l'
 | [], l, l', f, i, h, _ => by cases l <;> exact h
 | b :: bs, [], l', f, i, h, _ => by cases b <;> (first | exact h | (simp only [mergeF] at h; rw [← h]; rfl))
 | b :: bs, x :: l, [], f, i, h, _ => by cases b <;> simp [mergeF] at h
 | true :: bs, x :: l, y :: l', f, i, h, hf => by
  simp only [mergeF, List.cons.injEq, true_and] at h
  simp only [maskF]
  rw [mask_merge bs l l' f (i + 1) h (fun j => by rw [show i + 1 + j = i + (j + 1) by omega, hf]; rfl), show f i = y from hf 0]
 | false :: bs, x :: l, y :: l', f, i, h, hf => by
  simp only [mergeF, List.cons.injEq] at h
  simp only [maskF]
  rw [mask_merge bs l l' f (i + 1) h.2 (fun j => by rw [show i + 1 + j = i + (j + 1) by omega, hf]; rfl), h.1]
/-- ways that meet again: the slots that a statement may write are told by one function instead of a letter each -/
theorem wp_cutF {P : Program} {s : Code} {K : Act → World → Prop} {Q' : Exit → Act → World → Prop} {l : List Value} {w : World} (bs : List Bool) (R : (Nat → Value) → World → Prop)
  (rest : ∀ f w', R f w' → K ⟨(maskF bs l f 0).toArray, []⟩ w')
  (first : ∀ (J K' : Act → World → Prop), (∀ l' w', mergeF bs l l' = l' → R (slotF l') w' → J ⟨l'.toArray, []⟩ w') → (∀ a' w', Met J a' w' → K' a' w') → s.wp P (Exit.then K' Q') ⟨l.toArray, []⟩ w) : s.wp P (Exit.then K Q') ⟨l.toArray, []⟩ w := by
 refine wp_cut (fun a' w' => ∃ l', a' = ⟨l'.toArray, []⟩ ∧ mergeF bs l l' = l' ∧ R (slotF l') w') ?_ ?_
 ·rintro a' w' ⟨l', rfl, h1, h2⟩
  have := rest (slotF l') w' h2
  rwa [mask_merge bs l l' (slotF l') 0 h1 (fun j => by rw [Nat.zero_add])] at this
 ·intro J K' hJ hK
  exact first J K' (fun l' w' h1 h2 => hJ _ _ ⟨l', rfl, h1, h2⟩) hK
end Go.Proofs.YtbklkcfmlmneaaaDoor.A
