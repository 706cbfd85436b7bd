-- written by a program of this session's over the kit's print (xp.py)
import Derived.Test.YtahdlpadcbigaaaDoorAx0
import Derived.Test.YtahdlpadcbigaaaDoorAx1
import Derived.Test.YtahdlpadcbigaaaDoorAx2
import Derived.Test.YtahdlpadcbigaaaDoorAx3
import Derived.Test.YtahdlpadcbigaaaDoorAx4
import Derived.Test.YtahdlpadcbigaaaDoorAx5
-- halved
namespace Go.Proofs.YtahdlpadcbigaaaDoor.A
-- slim
set_option maxHeartbeats 8000000
set_option maxRecDepth 100000
open Go.RowKit Go.Proofs.YtahdlpadcbigaaaDoorW.PrintWords Go.Proofs.YtahdlpadcbigaaaDoorW.PrintLast Go.Proofs.YtahdlpadcbigaaaDoorW.PrintMore
attribute [local go_sem] max2_int min2_int max_two min_two max_three min_three max_four min_four   -- for this text's walks alone
set_option linter.unusedVariables false
set_option linter.unusedSimpArgs false

/-! ### laws_FnRingsMoveOfAll: function 3 -/
mutual
def laws_FnRingsMoveOfAll.j0 : Nat → ByteArray → ByteArray → List Int → ByteArray → Int → Int → Int → Bool → Option (Bool)
 | 0, _, _, _, _, _, _, _, _ => none
 | k + 1, x0, x1, x2, x3, x4, x5, x6, x92 => if x92 = true then (some true) else ((impl_MovesOf.f k x0).bind fun bt201 => ((spec_MovesOf.f k x0).bind fun bt205 => ((impl_NumberOfState.f k x0).bind fun bt209 => ((spec_NumberOfState.f k x0).bind fun bt211 => ((impl_CountOn.f x0).bind fun bt213 => ((spec_CountOn.f k x0).bind fun bt215 => ((impl_FarthestFrom.f k x0).bind fun bt217 => ((spec_FarthestFrom.f k x0).bind fun bt222 => (if (bt201.2 != bt205.2) = true then (laws_FnRingsMoveOfAll.j1 k x0 x1 x2 x3 x4 x5 x6 bt201.1 bt201.2 bt209.1 bt217.1 bt217.2.1 true) else ((laws_ySame.f k bt201.1 bt205.1).bind fun t227 => (if t227 = true then (if (bt209.2 != bt211.2) = true then (laws_FnRingsMoveOfAll.j1 k x0 x1 x2 x3 x4 x5 x6 bt201.1 bt201.2 bt209.1 bt217.1 bt217.2.1 true) else (if bt209.1 = bt211.1 then (if (bt213.2 != bt215.2) = true then (laws_FnRingsMoveOfAll.j1 k x0 x1 x2 x3 x4 x5 x6 bt201.1 bt201.2 bt209.1 bt217.1 bt217.2.1 true) else (if bt213.1 = bt215.1 then (if (bt217.2.2 != bt222.2.2) = true then (laws_FnRingsMoveOfAll.j1 k x0 x1 x2 x3 x4 x5 x6 bt201.1 bt201.2 bt209.1 bt217.1 bt217.2.1 true) else ((laws_yTexts.f k bt217.1 bt222.1).bind fun t228 => (if t228 = true then (if bt217.2.1 = bt222.2.1 then ((impl_IsState.f x0).bind fun t229 => (if (bt201.2 != t229) = true then (laws_FnRingsMoveOfAll.j1 k x0 x1 x2 x3 x4 x5 x6 bt201.1 bt201.2 bt209.1 bt217.1 bt217.2.1 true) else ((impl_IsState.f x0).bind fun t230 => ((spec_IsState.f k x0).bind fun t231 => (if (t230 != t231) = true then (laws_FnRingsMoveOfAll.j1 k x0 x1 x2 x3 x4 x5 x6 bt201.1 bt201.2 bt209.1 bt217.1 bt217.2.1 true) else (if (bt209.2 != bt201.2) = true then (laws_FnRingsMoveOfAll.j1 k x0 x1 x2 x3 x4 x5 x6 bt201.1 bt201.2 bt209.1 bt217.1 bt217.2.1 true) else (if (bt213.2 != bt201.2) = true then (laws_FnRingsMoveOfAll.j1 k x0 x1 x2 x3 x4 x5 x6 bt201.1 bt201.2 bt209.1 bt217.1 bt217.2.1 true) else (laws_FnRingsMoveOfAll.j1 k x0 x1 x2 x3 x4 x5 x6 bt201.1 bt201.2 bt209.1 bt217.1 bt217.2.1 (bt217.2.2 != bt201.2))))))))) else (laws_FnRingsMoveOfAll.j1 k x0 x1 x2 x3 x4 x5 x6 bt201.1 bt201.2 bt209.1 bt217.1 bt217.2.1 true)) else (laws_FnRingsMoveOfAll.j1 k x0 x1 x2 x3 x4 x5 x6 bt201.1 bt201.2 bt209.1 bt217.1 bt217.2.1 true)))) else (laws_FnRingsMoveOfAll.j1 k x0 x1 x2 x3 x4 x5 x6 bt201.1 bt201.2 bt209.1 bt217.1 bt217.2.1 true))) else (laws_FnRingsMoveOfAll.j1 k x0 x1 x2 x3 x4 x5 x6 bt201.1 bt201.2 bt209.1 bt217.1 bt217.2.1 true))) else (laws_FnRingsMoveOfAll.j1 k x0 x1 x2 x3 x4 x5 x6 bt201.1 bt201.2 bt209.1 bt217.1 bt217.2.1 true))))))))))))
def laws_FnRingsMoveOfAll.j1 : Nat → ByteArray → ByteArray → List Int → ByteArray → Int → Int → Int → List Int → Bool → Int → List ByteArray → Int → Bool → Option (Bool)
 | 0, _, _, _, _, _, _, _, _, _, _, _, _, _ => none
 | k + 1, x0, x1, x2, x3, x4, x5, x6, x15, x16, x19, x27, x28, x207 => if x207 = true then (some false) else (if x16 = true then ((impl_StateOfNumber.f k (x0.size : Int) x19).bind fun bt232 => (if (x15.length : Int) < 1 then (laws_FnRingsMoveOfAll.j2 k x0 x1 x2 x3 x4 x5 x6 x15 x19 x27 x28 true) else (if (x15.length : Int) > 2 then (laws_FnRingsMoveOfAll.j2 k x0 x1 x2 x3 x4 x5 x6 x15 x19 x27 x28 true) else (if 0 < (x15.length : Int) then (if (rd x15 0) = 0 then (if x19 < 0 then (laws_FnRingsMoveOfAll.j2 k x0 x1 x2 x3 x4 x5 x6 x15 x19 x27 x28 true) else (if x19 ≥ (shl .i64 1 (x0.size : Int)) then (laws_FnRingsMoveOfAll.j2 k x0 x1 x2 x3 x4 x5 x6 x15 x19 x27 x28 true) else (if bt232.2 = true then (if bt232.1.toList = x0.toList then (if x19 = 0 then (if (((x15.length : Int) == 1) != true) = true then (laws_FnRingsMoveOfAll.j2 k x0 x1 x2 x3 x4 x5 x6 x15 x19 x27 x28 true) else (if (x27.length : Int) < 1 then (laws_FnRingsMoveOfAll.j2 k x0 x1 x2 x3 x4 x5 x6 x15 x19 x27 x28 true) else (laws_FnRingsMoveOfAll.j2 k x0 x1 x2 x3 x4 x5 x6 x15 x19 x27 x28 (decide ((x27.length : Int) > 2))))) else (if (((x15.length : Int) == 1) != (x19 == (wrap64 ((shl .i64 1 (x0.size : Int)) - 1)))) = true then (laws_FnRingsMoveOfAll.j2 k x0 x1 x2 x3 x4 x5 x6 x15 x19 x27 x28 true) else (if (x27.length : Int) < 1 then (laws_FnRingsMoveOfAll.j2 k x0 x1 x2 x3 x4 x5 x6 x15 x19 x27 x28 true) else (laws_FnRingsMoveOfAll.j2 k x0 x1 x2 x3 x4 x5 x6 x15 x19 x27 x28 (decide ((x27.length : Int) > 2)))))) else (laws_FnRingsMoveOfAll.j2 k x0 x1 x2 x3 x4 x5 x6 x15 x19 x27 x28 true)) else (laws_FnRingsMoveOfAll.j2 k x0 x1 x2 x3 x4 x5 x6 x15 x19 x27 x28 true)))) else (laws_FnRingsMoveOfAll.j2 k x0 x1 x2 x3 x4 x5 x6 x15 x19 x27 x28 true)) else (none))))) else (laws_FnRingsMoveOfAll.j7 k x1 x2 x3 x4 x5 x6))
def laws_FnRingsMoveOfAll.j7 : Nat → ByteArray → List Int → ByteArray → Int → Int → Int → Option (Bool)
 | 0, _, _, _, _, _, _ => none
 | k + 1, x1, x2, x3, x4, x5, x6 => (impl_PlayMoves.f k x1 x2).bind fun bt246 => ((spec_PlayMoves.f k x1 x2).bind fun bt248 => ((impl_MoveThatFails.f k x1 x2).bind fun bt250 => ((spec_MoveThatFails.f k x1 x2).bind fun bt252 => ((impl_MoveRing.f x3 x4).bind fun bt254 => ((spec_MoveRing.f k x3 x4).bind fun bt256 => ((impl_StateOfNumber.f k x5 x6).bind fun bt258 => ((spec_StateOfNumber.f k x5 x6).bind fun bt260 => (if (bt246.2 != bt248.2) = true then (laws_FnRingsMoveOfAll.j8 k x1 x2 x5 x6 bt246.1 bt246.2 bt250.1 bt250.2 bt258.1 bt258.2 true) else (if bt246.1.toList = bt248.1.toList then (if (bt250.2 != bt252.2) = true then (laws_FnRingsMoveOfAll.j8 k x1 x2 x5 x6 bt246.1 bt246.2 bt250.1 bt250.2 bt258.1 bt258.2 true) else (if bt250.1 = bt252.1 then (if bt246.2 = true then (if bt250.2 = true then (laws_FnRingsMoveOfAll.j8 k x1 x2 x5 x6 bt246.1 bt246.2 bt250.1 bt250.2 bt258.1 bt258.2 true) else (if (bt254.2 != bt256.2) = true then (laws_FnRingsMoveOfAll.j8 k x1 x2 x5 x6 bt246.1 bt246.2 bt250.1 bt250.2 bt258.1 bt258.2 true) else (if bt254.1.toList = bt256.1.toList then (if (bt258.2 != bt260.2) = true then (laws_FnRingsMoveOfAll.j8 k x1 x2 x5 x6 bt246.1 bt246.2 bt250.1 bt250.2 bt258.1 bt258.2 true) else (laws_FnRingsMoveOfAll.j8 k x1 x2 x5 x6 bt246.1 bt246.2 bt250.1 bt250.2 bt258.1 bt258.2 (bt258.1.toList != bt260.1.toList))) else (laws_FnRingsMoveOfAll.j8 k x1 x2 x5 x6 bt246.1 bt246.2 bt250.1 bt250.2 bt258.1 bt258.2 true)))) else (if (bt254.2 != bt256.2) = true then (laws_FnRingsMoveOfAll.j8 k x1 x2 x5 x6 bt246.1 bt246.2 bt250.1 bt250.2 bt258.1 bt258.2 true) else (if bt254.1.toList = bt256.1.toList then (if (bt258.2 != bt260.2) = true then (laws_FnRingsMoveOfAll.j8 k x1 x2 x5 x6 bt246.1 bt246.2 bt250.1 bt250.2 bt258.1 bt258.2 true) else (laws_FnRingsMoveOfAll.j8 k x1 x2 x5 x6 bt246.1 bt246.2 bt250.1 bt250.2 bt258.1 bt258.2 (bt258.1.toList != bt260.1.toList))) else (laws_FnRingsMoveOfAll.j8 k x1 x2 x5 x6 bt246.1 bt246.2 bt250.1 bt250.2 bt258.1 bt258.2 true)))) else (laws_FnRingsMoveOfAll.j8 k x1 x2 x5 x6 bt246.1 bt246.2 bt250.1 bt250.2 bt258.1 bt258.2 true))) else (laws_FnRingsMoveOfAll.j8 k x1 x2 x5 x6 bt246.1 bt246.2 bt250.1 bt250.2 bt258.1 bt258.2 true))))))))))
def laws_FnRingsMoveOfAll.j8 : Nat → ByteArray → List Int → Int → Int → ByteArray → Bool → Int → Bool → ByteArray → Bool → Bool → Option (Bool)
 | 0, _, _, _, _, _, _, _, _, _, _, _ => none
 | k + 1, x1, x2, x5, x6, x48, x49, x52, x53, x60, x61, x449 => if x449 = true then (some false) else (if x49 = true then (laws_FnRingsMoveOfAll.l3 k x1 x2 x5 x6 x48 x52 x53 x60 x61 x1 x2 (x2.length : Int) 0) else (laws_FnRingsMoveOfAll.j10 k x1 x2 x5 x6 x52 x53 x60 x61))
def laws_FnRingsMoveOfAll.j10 : Nat → ByteArray → List Int → Int → Int → Int → Bool → ByteArray → Bool → Option (Bool)
 | 0, _, _, _, _, _, _, _, _ => none
 | k + 1, x1, x2, x5, x6, x52, x53, x60, x61 => if x53 = true then (if 0 ≤ x52 then (if x52 ≤ (x2.length : Int) then ((impl_PlayMoves.f k x1 (x2.take (x52 : Int).toNat)).bind fun bt266 => (if bt266.2 = true then (if x52 < (x2.length : Int) then ((impl_MoveRing.f bt266.1 (rd x2 x52)).bind fun bt269 => (if bt269.2 = true then (some false) else (if x61 = true then ((impl_NumberOfState.f k x60).bind fun bt271 => (if bt271.2 = true then (if bt271.1 = x6 then (some ((x60.size : Int) == x5)) else (some false)) else (some false))) else (some true)))) else (none)) else (some false))) else (none)) else (none)) else (if x61 = true then ((impl_NumberOfState.f k x60).bind fun bt273 => (if bt273.2 = true then (if bt273.1 = x6 then (some ((x60.size : Int) == x5)) else (some false)) else (some false))) else (some true))
def laws_FnRingsMoveOfAll.l3 : Nat → ByteArray → List Int → Int → Int → ByteArray → Int → Bool → ByteArray → Bool → ByteArray → List Int → Int → Int → Option (Bool)
 | 0, _, _, _, _, _, _, _, _, _, _, _, _, _ => none
 | k + 1, x1, x2, x5, x6, x48, x52, x53, x60, x61, x64, x452, x453, x454 => if x454 < x453 then (if 0 ≤ x454 then (if x454 < (x452.length : Int) then ((impl_MoveRing.f x64 (rd x452 x454)).bind fun bt263 => (if bt263.2 = true then (laws_FnRingsMoveOfAll.l3 k x1 x2 x5 x6 x48 x52 x53 x60 x61 bt263.1 x452 x453 (wrap64 (x454 + 1))) else (some false))) else (none)) else (none)) else (if x64.toList = x48.toList then (laws_FnRingsMoveOfAll.j10 k x1 x2 x5 x6 x52 x53 x60 x61) else (some false))
def laws_FnRingsMoveOfAll.j2 : Nat → ByteArray → ByteArray → List Int → ByteArray → Int → Int → Int → List Int → Int → List ByteArray → Int → Bool → Option (Bool)
 | 0, _, _, _, _, _, _, _, _, _, _, _, _ => none
 | k + 1, x0, x1, x2, x3, x4, x5, x6, x15, x19, x27, x28, x275 => if x275 = true then (some false) else (laws_FnRingsMoveOfAll.l0 k x0 x1 x2 x3 x4 x5 x6 x19 x27 x28 x15 (x15.length : Int) 0)
def laws_FnRingsMoveOfAll.l0 : Nat → ByteArray → ByteArray → List Int → ByteArray → Int → Int → Int → Int → List ByteArray → Int → List Int → Int → Int → Option (Bool)
 | 0, _, _, _, _, _, _, _, _, _, _, _, _, _ => none
 | k + 1, x0, x1, x2, x3, x4, x5, x6, x19, x27, x28, x276, x277, x278 => if x278 < x277 then (if 0 ≤ x278 then (if x278 < (x276.length : Int) then ((impl_MoveRing.f x0 (rd x276 x278)).bind fun bt236 => ((impl_MoveRing.f bt236.1 (rd x276 x278)).bind fun bt238 => ((impl_NumberOfState.f k bt236.1).bind fun bt240 => (if bt236.2 = true then (if bt238.2 = true then (if bt238.1.toList = x0.toList then (if bt240.2 = true then ((laws_yAbs.f (wrap64 (bt240.1 - x19))).bind fun t242 => (laws_FnRingsMoveOfAll.j4 k x0 x1 x2 x3 x4 x5 x6 x19 x27 x28 (rd x276 x278) bt236.1 x276 x277 x278 (t242 != 1))) else (laws_FnRingsMoveOfAll.j4 k x0 x1 x2 x3 x4 x5 x6 x19 x27 x28 (rd x276 x278) bt236.1 x276 x277 x278 true)) else (laws_FnRingsMoveOfAll.j4 k x0 x1 x2 x3 x4 x5 x6 x19 x27 x28 (rd x276 x278) bt236.1 x276 x277 x278 true)) else (laws_FnRingsMoveOfAll.j4 k x0 x1 x2 x3 x4 x5 x6 x19 x27 x28 (rd x276 x278) bt236.1 x276 x277 x278 true)) else (laws_FnRingsMoveOfAll.j4 k x0 x1 x2 x3 x4 x5 x6 x19 x27 x28 (rd x276 x278) bt236.1 x276 x277 x278 true))))) else (none)) else (none)) else (laws_FnRingsMoveOfAll.l2 k x0 x1 x2 x3 x4 x5 x6 x28 x27 (x27.length : Int) 0)
def laws_FnRingsMoveOfAll.j4 : Nat → ByteArray → ByteArray → List Int → ByteArray → Int → Int → Int → Int → List ByteArray → Int → Int → ByteArray → List Int → Int → Int → Bool → Option (Bool)
 | 0, _, _, _, _, _, _, _, _, _, _, _, _, _, _, _, _ => none
 | k + 1, x0, x1, x2, x3, x4, x5, x6, x19, x27, x28, x36, x37, x276, x277, x278, x320 => if x320 = true then (some false) else (laws_FnRingsMoveOfAll.l1 k x0 x1 x2 x3 x4 x5 x6 x19 x27 x28 x36 x37 x276 x277 x278 x0 0)
def laws_FnRingsMoveOfAll.l1 : Nat → ByteArray → ByteArray → List Int → ByteArray → Int → Int → Int → Int → List ByteArray → Int → Int → ByteArray → List Int → Int → Int → ByteArray → Nat → Option (Bool)
 | 0, _, _, _, _, _, _, _, _, _, _, _, _, _, _, _, _, _ => none
 | k + 1, x0, x1, x2, x3, x4, x5, x6, x19, x27, x28, x36, x37, x276, x277, x278, x321, x322 => if (x322 : Int) < (x321.size : Int) then (if 0 ≤ (x322 : Int) then (if bt x321 (x322 : Int) < 128 then (if (x322 : Int) < (x37.size : Int) then (if (x322 : Int) < (x0.size : Int) then (if (((bt x37 (x322 : Int)) != (bt x0 (x322 : Int))) != ((x322 : Int) == x36)) = true then (some false) else (laws_FnRingsMoveOfAll.l1 k x0 x1 x2 x3 x4 x5 x6 x19 x27 x28 x36 x37 x276 x277 x278 x321 (x322 + 1))) else (none)) else (none)) else (none)) else (none)) else (laws_FnRingsMoveOfAll.l0 k x0 x1 x2 x3 x4 x5 x6 x19 x27 x28 x276 x277 (wrap64 (x278 + 1)))
def laws_FnRingsMoveOfAll.l2 : Nat → ByteArray → ByteArray → List Int → ByteArray → Int → Int → Int → Int → List ByteArray → Int → Int → Option (Bool)
 | 0, _, _, _, _, _, _, _, _, _, _, _ => none
 | k + 1, x0, x1, x2, x3, x4, x5, x6, x28, x338, x339, x340 => if x340 < x339 then (if 0 ≤ x340 then (if x340 < (x338.length : Int) then ((impl_FewestMoves.f k x0 (rdOf ByteArray.empty x338 x340)).bind fun bt244 => (if bt244.2 = true then (if bt244.1 = x28 then (laws_FnRingsMoveOfAll.l2 k x0 x1 x2 x3 x4 x5 x6 x28 x338 x339 (wrap64 (x340 + 1))) else (some false)) else (some false))) else (none)) else (none)) else (laws_FnRingsMoveOfAll.j7 k x1 x2 x3 x4 x5 x6)
end
def laws_FnRingsMoveOfAll.f (k : Nat) (a0 : ByteArray) (a1 : ByteArray) (l2 : List Int) (a3 : ByteArray) (a4 : Int) (a5 : Int) (a6 : Int) : Option (Bool) := if (a0.size : Int) > 1048576 then (laws_FnRingsMoveOfAll.j0 k a0 a1 l2 a3 a4 a5 a6 true) else (if (a1.size : Int) > 1048576 then (laws_FnRingsMoveOfAll.j0 k a0 a1 l2 a3 a4 a5 a6 true) else (if (l2.length : Int) > 10000 then (laws_FnRingsMoveOfAll.j0 k a0 a1 l2 a3 a4 a5 a6 true) else (laws_FnRingsMoveOfAll.j0 k a0 a1 l2 a3 a4 a5 a6 (decide ((a3.size : Int) > 1048576)))))
theorem laws_FnRingsMoveOfAll.mono_l : ∀ k, (∀ y0 y1 y2 y3 y4 y5 y6 y7, LeO (laws_FnRingsMoveOfAll.j0 k y0 y1 y2 y3 y4 y5 y6 y7) (laws_FnRingsMoveOfAll.j0 (k + 1) y0 y1 y2 y3 y4 y5 y6 y7)) ∧ (∀ y0 y1 y2 y3 y4 y5 y6 y7 y8 y9 y10 y11 y12, LeO (laws_FnRingsMoveOfAll.j1 k y0 y1 y2 y3 y4 y5 y6 y7 y8 y9 y10 y11 y12) (laws_FnRingsMoveOfAll.j1 (k + 1) y0 y1 y2 y3 y4 y5 y6 y7 y8 y9 y10 y11 y12)) ∧ (∀ y0 y1 y2 y3 y4 y5, LeO (laws_FnRingsMoveOfAll.j7 k y0 y1 y2 y3 y4 y5) (laws_FnRingsMoveOfAll.j7 (k + 1) y0 y1 y2 y3 y4 y5)) ∧ (∀ y0 y1 y2 y3 y4 y5 y6 y7 y8 y9 y10, LeO (laws_FnRingsMoveOfAll.j8 k y0 y1 y2 y3 y4 y5 y6 y7 y8 y9 y10) (laws_FnRingsMoveOfAll.j8 (k + 1) y0 y1 y2 y3 y4 y5 y6 y7 y8 y9 y10)) ∧ (∀ y0 y1 y2 y3 y4 y5 y6 y7, LeO (laws_FnRingsMoveOfAll.j10 k y0 y1 y2 y3 y4 y5 y6 y7) (laws_FnRingsMoveOfAll.j10 (k + 1) y0 y1 y2 y3 y4 y5 y6 y7)) ∧ (∀ y0 y1 y2 y3 y4 y5 y6 y7 y8 y9 y10 y11 y12, LeO (laws_FnRingsMoveOfAll.l3 k y0 y1 y2 y3 y4 y5 y6 y7 y8 y9 y10 y11 y12) (laws_FnRingsMoveOfAll.l3 (k + 1) y0 y1 y2 y3 y4 y5 y6 y7 y8 y9 y10 y11 y12)) ∧ (∀ y0 y1 y2 y3 y4 y5 y6 y7 y8 y9 y10 y11, LeO (laws_FnRingsMoveOfAll.j2 k y0 y1 y2 y3 y4 y5 y6 y7 y8 y9 y10 y11) (laws_FnRingsMoveOfAll.j2 (k + 1) y0 y1 y2 y3 y4 y5 y6 y7 y8 y9 y10 y11)) ∧ (∀ y0 y1 y2 y3 y4 y5 y6 y7 y8 y9 y10 y11 y12, LeO (laws_FnRingsMoveOfAll.l0 k y0 y1 y2 y3 y4 y5 y6 y7 y8 y9 y10 y11 y12) (laws_FnRingsMoveOfAll.l0 (k + 1) y0 y1 y2 y3 y4 y5 y6 y7 y8 y9 y10 y11 y12)) ∧ (∀ y0 y1 y2 y3 y4 y5 y6 y7 y8 y9 y10 y11 y12 y13 y14 y15, LeO (laws_FnRingsMoveOfAll.j4 k y0 y1 y2 y3 y4 y5 y6 y7 y8 y9 y10 y11 y12 y13 y14 y15) (laws_FnRingsMoveOfAll.j4 (k + 1) y0 y1 y2 y3 y4 y5 y6 y7 y8 y9 y10 y11 y12 y13 y14 y15)) ∧ (∀ y0 y1 y2 y3 y4 y5 y6 y7 y8 y9 y10 y11 y12 y13 y14 y15 y16, LeO (laws_FnRingsMoveOfAll.l1 k y0 y1 y2 y3 y4 y5 y6 y7 y8 y9 y10 y11 y12 y13 y14 y15 y16) (laws_FnRingsMoveOfAll.l1 (k + 1) y0 y1 y2 y3 y4 y5 y6 y7 y8 y9 y10 y11 y12 y13 y14 y15 y16)) ∧ (∀ y0 y1 y2 y3 y4 y5 y6 y7 y8 y9 y10, LeO (laws_FnRingsMoveOfAll.l2 k y0 y1 y2 y3 y4 y5 y6 y7 y8 y9 y10) (laws_FnRingsMoveOfAll.l2 (k + 1) y0 y1 y2 y3 y4 y5 y6 y7 y8 y9 y10))
 | 0 => ⟨fun _ _ _ _ _ _ _ _ r h => by simp [laws_FnRingsMoveOfAll.j0] at h, fun _ _ _ _ _ _ _ _ _ _ _ _ _ r h => by simp [laws_FnRingsMoveOfAll.j1] at h, fun _ _ _ _ _ _ r h => by simp [laws_FnRingsMoveOfAll.j7] at h, fun _ _ _ _ _ _ _ _ _ _ _ r h => by simp [laws_FnRingsMoveOfAll.j8] at h, fun _ _ _ _ _ _ _ _ r h => by simp [laws_FnRingsMoveOfAll.j10] at h, fun _ _ _ _ _ _ _ _ _ _ _ _ _ r h => by simp [laws_FnRingsMoveOfAll.l3] at h, fun _ _ _ _ _ _ _ _ _ _ _ _ r h => by simp [laws_FnRingsMoveOfAll.j2] at h, fun _ _ _ _ _ _ _ _ _ _ _ _ _ r h => by simp [laws_FnRingsMoveOfAll.l0] at h, fun _ _ _ _ _ _ _ _ _ _ _ _ _ _ _ _ r h => by simp [laws_FnRingsMoveOfAll.j4] at h, fun _ _ _ _ _ _ _ _ _ _ _ _ _ _ _ _ _ r h => by simp [laws_FnRingsMoveOfAll.l1] at h, fun _ _ _ _ _ _ _ _ _ _ _ r h => by simp [laws_FnRingsMoveOfAll.l2] at h⟩
 | k + 1 => by
  obtain ⟨ih0, ih1, ih2, ih3, ih4, ih5, ih6, ih7, ih8, ih9, ih10⟩ := laws_FnRingsMoveOfAll.mono_l k
  refine ⟨?_, ?_, ?_, ?_, ?_, ?_, ?_, ?_, ?_, ?_, ?_⟩
  ·intro y0 y1 y2 y3 y4 y5 y6 y7
   unfold laws_FnRingsMoveOfAll.j0
   repeat' first
   | (with_reducible exact ih0 _ _ _ _ _ _ _ _)
   | (with_reducible exact ih1 _ _ _ _ _ _ _ _ _ _ _ _ _)
   | (with_reducible exact ih2 _ _ _ _ _ _)
   | (with_reducible exact ih3 _ _ _ _ _ _ _ _ _ _ _)
   | (with_reducible exact ih4 _ _ _ _ _ _ _ _)
   | (with_reducible exact ih5 _ _ _ _ _ _ _ _ _ _ _ _ _)
   | (with_reducible exact ih6 _ _ _ _ _ _ _ _ _ _ _ _)
   | (with_reducible exact ih7 _ _ _ _ _ _ _ _ _ _ _ _ _)
   | (with_reducible exact ih8 _ _ _ _ _ _ _ _ _ _ _ _ _ _ _ _)
   | (with_reducible exact ih9 _ _ _ _ _ _ _ _ _ _ _ _ _ _ _ _ _)
   | (with_reducible exact ih10 _ _ _ _ _ _ _ _ _ _ _)
   | (with_reducible exact impl_FarthestFrom.mono _ _)
   | (with_reducible exact impl_FewestMoves.mono _ _ _)
   | (with_reducible exact impl_MoveThatFails.mono _ _ _)
   | (with_reducible exact impl_MovesOf.mono _ _)
   | (with_reducible exact impl_NumberOfState.mono _ _)
   | (with_reducible exact impl_PlayMoves.mono _ _ _)
   | (with_reducible exact impl_StateOfNumber.mono _ _ _)
   | (with_reducible exact laws_ySame.mono _ _ _)
   | (with_reducible exact laws_yTexts.mono _ _ _)
   | (with_reducible exact spec_CountOn.mono _ _)
   | (with_reducible exact spec_FarthestFrom.mono _ _)
   | (with_reducible exact spec_IsState.mono _ _)
   | (with_reducible exact spec_MoveRing.mono _ _ _)
   | (with_reducible exact spec_MoveThatFails.mono _ _ _)
   | (with_reducible exact spec_MovesOf.mono _ _)
   | (with_reducible exact spec_NumberOfState.mono _ _)
   | (with_reducible exact spec_PlayMoves.mono _ _ _)
   | (with_reducible exact spec_StateOfNumber.mono _ _ _)
   | (with_reducible exact LeO.refl _)
   | (with_reducible exact LeO.none _)
   | (with_reducible refine LeO.ite ?_ ?_)
   | (with_reducible refine LeO.bind ?_ (fun _ => ?_))
   | exact ih0 _ _ _ _ _ _ _ _
   | exact ih1 _ _ _ _ _ _ _ _ _ _ _ _ _
   | exact ih2 _ _ _ _ _ _
   | exact ih3 _ _ _ _ _ _ _ _ _ _ _
   | exact ih4 _ _ _ _ _ _ _ _
   | exact ih5 _ _ _ _ _ _ _ _ _ _ _ _ _
   | exact ih6 _ _ _ _ _ _ _ _ _ _ _ _
   | exact ih7 _ _ _ _ _ _ _ _ _ _ _ _ _
   | exact ih8 _ _ _ _ _ _ _ _ _ _ _ _ _ _ _ _
   | exact ih9 _ _ _ _ _ _ _ _ _ _ _ _ _ _ _ _ _
   | exact ih10 _ _ _ _ _ _ _ _ _ _ _
   | exact impl_FarthestFrom.mono _ _
   | exact impl_FewestMoves.mono _ _ _
   | exact impl_MoveThatFails.mono _ _ _
   | exact impl_MovesOf.mono _ _
   | exact impl_NumberOfState.mono _ _
   | exact impl_PlayMoves.mono _ _ _
   | exact impl_StateOfNumber.mono _ _ _
   | exact laws_ySame.mono _ _ _
   | exact laws_yTexts.mono _ _ _
   | exact spec_CountOn.mono _ _
   | exact spec_FarthestFrom.mono _ _
   | exact spec_IsState.mono _ _
   | exact spec_MoveRing.mono _ _ _
   | exact spec_MoveThatFails.mono _ _ _
   | exact spec_MovesOf.mono _ _
   | exact spec_NumberOfState.mono _ _
   | exact spec_PlayMoves.mono _ _ _
   | exact spec_StateOfNumber.mono _ _ _
   | exact LeO.none _
   | refine LeO.ite ?_ ?_
   | refine LeO.bind ?_ (fun _ => ?_)
  ·intro y0 y1 y2 y3 y4 y5 y6 y7 y8 y9 y10 y11 y12
   unfold laws_FnRingsMoveOfAll.j1
   repeat' first
   | (with_reducible exact ih0 _ _ _ _ _ _ _ _)
   | (with_reducible exact ih1 _ _ _ _ _ _ _ _ _ _ _ _ _)
   | (with_reducible exact ih2 _ _ _ _ _ _)
   | (with_reducible exact ih3 _ _ _ _ _ _ _ _ _ _ _)
   | (with_reducible exact ih4 _ _ _ _ _ _ _ _)
   | (with_reducible exact ih5 _ _ _ _ _ _ _ _ _ _ _ _ _)
   | (with_reducible exact ih6 _ _ _ _ _ _ _ _ _ _ _ _)
   | (with_reducible exact ih7 _ _ _ _ _ _ _ _ _ _ _ _ _)
   | (with_reducible exact ih8 _ _ _ _ _ _ _ _ _ _ _ _ _ _ _ _)
   | (with_reducible exact ih9 _ _ _ _ _ _ _ _ _ _ _ _ _ _ _ _ _)
   | (with_reducible exact ih10 _ _ _ _ _ _ _ _ _ _ _)
   | (with_reducible exact impl_FarthestFrom.mono _ _)
   | (with_reducible exact impl_FewestMoves.mono _ _ _)
   | (with_reducible exact impl_MoveThatFails.mono _ _ _)
   | (with_reducible exact impl_MovesOf.mono _ _)
   | (with_reducible exact impl_NumberOfState.mono _ _)
   | (with_reducible exact impl_PlayMoves.mono _ _ _)
   | (with_reducible exact impl_StateOfNumber.mono _ _ _)
   | (with_reducible exact laws_ySame.mono _ _ _)
   | (with_reducible exact laws_yTexts.mono _ _ _)
   | (with_reducible exact spec_CountOn.mono _ _)
   | (with_reducible exact spec_FarthestFrom.mono _ _)
   | (with_reducible exact spec_IsState.mono _ _)
   | (with_reducible exact spec_MoveRing.mono _ _ _)
   | (with_reducible exact spec_MoveThatFails.mono _ _ _)
   | (with_reducible exact spec_MovesOf.mono _ _)
   | (with_reducible exact spec_NumberOfState.mono _ _)
   | (with_reducible exact spec_PlayMoves.mono _ _ _)
   | (with_reducible exact spec_StateOfNumber.mono _ _ _)
   | (with_reducible exact LeO.refl _)
   | (with_reducible exact LeO.none _)
   | (with_reducible refine LeO.ite ?_ ?_)
   | (with_reducible refine LeO.bind ?_ (fun _ => ?_))
   | exact ih0 _ _ _ _ _ _ _ _
   | exact ih1 _ _ _ _ _ _ _ _ _ _ _ _ _
   | exact ih2 _ _ _ _ _ _
   | exact ih3 _ _ _ _ _ _ _ _ _ _ _
   | exact ih4 _ _ _ _ _ _ _ _
   | exact ih5 _ _ _ _ _ _ _ _ _ _ _ _ _
   | exact ih6 _ _ _ _ _ _ _ _ _ _ _ _
   | exact ih7 _ _ _ _ _ _ _ _ _ _ _ _ _
   | exact ih8 _ _ _ _ _ _ _ _ _ _ _ _ _ _ _ _
   | exact ih9 _ _ _ _ _ _ _ _ _ _ _ _ _ _ _ _ _
   | exact ih10 _ _ _ _ _ _ _ _ _ _ _
   | exact impl_FarthestFrom.mono _ _
   | exact impl_FewestMoves.mono _ _ _
   | exact impl_MoveThatFails.mono _ _ _
   | exact impl_MovesOf.mono _ _
   | exact impl_NumberOfState.mono _ _
   | exact impl_PlayMoves.mono _ _ _
   | exact impl_StateOfNumber.mono _ _ _
   | exact laws_ySame.mono _ _ _
   | exact laws_yTexts.mono _ _ _
   | exact spec_CountOn.mono _ _
   | exact spec_FarthestFrom.mono _ _
   | exact spec_IsState.mono _ _
   | exact spec_MoveRing.mono _ _ _
   | exact spec_MoveThatFails.mono _ _ _
   | exact spec_MovesOf.mono _ _
   | exact spec_NumberOfState.mono _ _
   | exact spec_PlayMoves.mono _ _ _
   | exact spec_StateOfNumber.mono _ _ _
   | exact LeO.none _
   | refine LeO.ite ?_ ?_
   | refine LeO.bind ?_ (fun _ => ?_)
  ·intro y0 y1 y2 y3 y4 y5
   unfold laws_FnRingsMoveOfAll.j7
   repeat' first
   | (with_reducible exact ih0 _ _ _ _ _ _ _ _)
   | (with_reducible exact ih1 _ _ _ _ _ _ _ _ _ _ _ _ _)
   | (with_reducible exact ih2 _ _ _ _ _ _)
   | (with_reducible exact ih3 _ _ _ _ _ _ _ _ _ _ _)
   | (with_reducible exact ih4 _ _ _ _ _ _ _ _)
   | (with_reducible exact ih5 _ _ _ _ _ _ _ _ _ _ _ _ _)
   | (with_reducible exact ih6 _ _ _ _ _ _ _ _ _ _ _ _)
   | (with_reducible exact ih7 _ _ _ _ _ _ _ _ _ _ _ _ _)
   | (with_reducible exact ih8 _ _ _ _ _ _ _ _ _ _ _ _ _ _ _ _)
   | (with_reducible exact ih9 _ _ _ _ _ _ _ _ _ _ _ _ _ _ _ _ _)
   | (with_reducible exact ih10 _ _ _ _ _ _ _ _ _ _ _)
   | (with_reducible exact impl_FarthestFrom.mono _ _)
   | (with_reducible exact impl_FewestMoves.mono _ _ _)
   | (with_reducible exact impl_MoveThatFails.mono _ _ _)
   | (with_reducible exact impl_MovesOf.mono _ _)
   | (with_reducible exact impl_NumberOfState.mono _ _)
   | (with_reducible exact impl_PlayMoves.mono _ _ _)
   | (with_reducible exact impl_StateOfNumber.mono _ _ _)
   | (with_reducible exact laws_ySame.mono _ _ _)
   | (with_reducible exact laws_yTexts.mono _ _ _)
   | (with_reducible exact spec_CountOn.mono _ _)
   | (with_reducible exact spec_FarthestFrom.mono _ _)
   | (with_reducible exact spec_IsState.mono _ _)
   | (with_reducible exact spec_MoveRing.mono _ _ _)
   | (with_reducible exact spec_MoveThatFails.mono _ _ _)
   | (with_reducible exact spec_MovesOf.mono _ _)
   | (with_reducible exact spec_NumberOfState.mono _ _)
   | (with_reducible exact spec_PlayMoves.mono _ _ _)
   | (with_reducible exact spec_StateOfNumber.mono _ _ _)
   | (with_reducible exact LeO.refl _)
   | (with_reducible exact LeO.none _)
   | (with_reducible refine LeO.ite ?_ ?_)
   | (with_reducible refine LeO.bind ?_ (fun _ => ?_))
   | exact ih0 _ _ _ _ _ _ _ _
   | exact ih1 _ _ _ _ _ _ _ _ _ _ _ _ _
   | exact ih2 _ _ _ _ _ _
   | exact ih3 _ _ _ _ _ _ _ _ _ _ _
   | exact ih4 _ _ _ _ _ _ _ _
   | exact ih5 _ _ _ _ _ _ _ _ _ _ _ _ _
   | exact ih6 _ _ _ _ _ _ _ _ _ _ _ _
   | exact ih7 _ _ _ _ _ _ _ _ _ _ _ _ _
   | exact ih8 _ _ _ _ _ _ _ _ _ _ _ _ _ _ _ _
   | exact ih9 _ _ _ _ _ _ _ _ _ _ _ _ _ _ _ _ _
   | exact ih10 _ _ _ _ _ _ _ _ _ _ _
   | exact impl_FarthestFrom.mono _ _
   | exact impl_FewestMoves.mono _ _ _
   | exact impl_MoveThatFails.mono _ _ _
   | exact impl_MovesOf.mono _ _
   | exact impl_NumberOfState.mono _ _
   | exact impl_PlayMoves.mono _ _ _
   | exact impl_StateOfNumber.mono _ _ _
   | exact laws_ySame.mono _ _ _
   | exact laws_yTexts.mono _ _ _
   | exact spec_CountOn.mono _ _
   | exact spec_FarthestFrom.mono _ _
   | exact spec_IsState.mono _ _
   | exact spec_MoveRing.mono _ _ _
   | exact spec_MoveThatFails.mono _ _ _
   | exact spec_MovesOf.mono _ _
   | exact spec_NumberOfState.mono _ _
   | exact spec_PlayMoves.mono _ _ _
   | exact spec_StateOfNumber.mono _ _ _
   | exact LeO.none _
   | refine LeO.ite ?_ ?_
   | refine LeO.bind ?_ (fun _ => ?_)
  ·intro y0 y1 y2 y3 y4 y5 y6 y7 y8 y9 y10
   unfold laws_FnRingsMoveOfAll.j8
   repeat' first
   | (with_reducible exact ih0 _ _ _ _ _ _ _ _)
   | (with_reducible exact ih1 _ _ _ _ _ _ _ _ _ _ _ _ _)
   | (with_reducible exact ih2 _ _ _ _ _ _)
   | (with_reducible exact ih3 _ _ _ _ _ _ _ _ _ _ _)
   | (with_reducible exact ih4 _ _ _ _ _ _ _ _)
   | (with_reducible exact ih5 _ _ _ _ _ _ _ _ _ _ _ _ _)
   | (with_reducible exact ih6 _ _ _ _ _ _ _ _ _ _ _ _)
   | (with_reducible exact ih7 _ _ _ _ _ _ _ _ _ _ _ _ _)
   | (with_reducible exact ih8 _ _ _ _ _ _ _ _ _ _ _ _ _ _ _ _)
   | (with_reducible exact ih9 _ _ _ _ _ _ _ _ _ _ _ _ _ _ _ _ _)
   | (with_reducible exact ih10 _ _ _ _ _ _ _ _ _ _ _)
   | (with_reducible exact impl_FarthestFrom.mono _ _)
   | (with_reducible exact impl_FewestMoves.mono _ _ _)
   | (with_reducible exact impl_MoveThatFails.mono _ _ _)
   | (with_reducible exact impl_MovesOf.mono _ _)
   | (with_reducible exact impl_NumberOfState.mono _ _)
   | (with_reducible exact impl_PlayMoves.mono _ _ _)
   | (with_reducible exact impl_StateOfNumber.mono _ _ _)
   | (with_reducible exact laws_ySame.mono _ _ _)
   | (with_reducible exact laws_yTexts.mono _ _ _)
   | (with_reducible exact spec_CountOn.mono _ _)
   | (with_reducible exact spec_FarthestFrom.mono _ _)
   | (with_reducible exact spec_IsState.mono _ _)
   | (with_reducible exact spec_MoveRing.mono _ _ _)
   | (with_reducible exact spec_MoveThatFails.mono _ _ _)
   | (with_reducible exact spec_MovesOf.mono _ _)
   | (with_reducible exact spec_NumberOfState.mono _ _)
   | (with_reducible exact spec_PlayMoves.mono _ _ _)
   | (with_reducible exact spec_StateOfNumber.mono _ _ _)
   | (with_reducible exact LeO.refl _)
   | (with_reducible exact LeO.none _)
   | (with_reducible refine LeO.ite ?_ ?_)
   | (with_reducible refine LeO.bind ?_ (fun _ => ?_))
   | exact ih0 _ _ _ _ _ _ _ _
   | exact ih1 _ _ _ _ _ _ _ _ _ _ _ _ _
   | exact ih2 _ _ _ _ _ _
   | exact ih3 _ _ _ _ _ _ _ _ _ _ _
   | exact ih4 _ _ _ _ _ _ _ _
   | exact ih5 _ _ _ _ _ _ _ _ _ _ _ _ _
   | exact ih6 _ _ _ _ _ _ _ _ _ _ _ _
   | exact ih7 _ _ _ _ _ _ _ _ _ _ _ _ _
   | exact ih8 _ _ _ _ _ _ _ _ _ _ _ _ _ _ _ _
   | exact ih9 _ _ _ _ _ _ _ _ _ _ _ _ _ _ _ _ _
   | exact ih10 _ _ _ _ _ _ _ _ _ _ _
   | exact impl_FarthestFrom.mono _ _
   | exact impl_FewestMoves.mono _ _ _
   | exact impl_MoveThatFails.mono _ _ _
   | exact impl_MovesOf.mono _ _
   | exact impl_NumberOfState.mono _ _
   | exact impl_PlayMoves.mono _ _ _
   | exact impl_StateOfNumber.mono _ _ _
   | exact laws_ySame.mono _ _ _
   | exact laws_yTexts.mono _ _ _
   | exact spec_CountOn.mono _ _
   | exact spec_FarthestFrom.mono _ _
   | exact spec_IsState.mono _ _
   | exact spec_MoveRing.mono _ _ _
   | exact spec_MoveThatFails.mono _ _ _
   | exact spec_MovesOf.mono _ _
   | exact spec_NumberOfState.mono _ _
   | exact spec_PlayMoves.mono _ _ _
   | exact spec_StateOfNumber.mono _ _ _
   | exact LeO.none _
   | refine LeO.ite ?_ ?_
   | refine LeO.bind ?_ (fun _ => ?_)
  ·intro y0 y1 y2 y3 y4 y5 y6 y7
   unfold laws_FnRingsMoveOfAll.j10
   repeat' first
   | (with_reducible exact ih0 _ _ _ _ _ _ _ _)
   | (with_reducible exact ih1 _ _ _ _ _ _ _ _ _ _ _ _ _)
   | (with_reducible exact ih2 _ _ _ _ _ _)
   | (with_reducible exact ih3 _ _ _ _ _ _ _ _ _ _ _)
   | (with_reducible exact ih4 _ _ _ _ _ _ _ _)
   | (with_reducible exact ih5 _ _ _ _ _ _ _ _ _ _ _ _ _)
   | (with_reducible exact ih6 _ _ _ _ _ _ _ _ _ _ _ _)
   | (with_reducible exact ih7 _ _ _ _ _ _ _ _ _ _ _ _ _)
   | (with_reducible exact ih8 _ _ _ _ _ _ _ _ _ _ _ _ _ _ _ _)
   | (with_reducible exact ih9 _ _ _ _ _ _ _ _ _ _ _ _ _ _ _ _ _)
   | (with_reducible exact ih10 _ _ _ _ _ _ _ _ _ _ _)
   | (with_reducible exact impl_FarthestFrom.mono _ _)
   | (with_reducible exact impl_FewestMoves.mono _ _ _)
   | (with_reducible exact impl_MoveThatFails.mono _ _ _)
   | (with_reducible exact impl_MovesOf.mono _ _)
   | (with_reducible exact impl_NumberOfState.mono _ _)
   | (with_reducible exact impl_PlayMoves.mono _ _ _)
   | (with_reducible exact impl_StateOfNumber.mono _ _ _)
   | (with_reducible exact laws_ySame.mono _ _ _)
   | (with_reducible exact laws_yTexts.mono _ _ _)
   | (with_reducible exact spec_CountOn.mono _ _)
   | (with_reducible exact spec_FarthestFrom.mono _ _)
   | (with_reducible exact spec_IsState.mono _ _)
   | (with_reducible exact spec_MoveRing.mono _ _ _)
   | (with_reducible exact spec_MoveThatFails.mono _ _ _)
   | (with_reducible exact spec_MovesOf.mono _ _)
   | (with_reducible exact spec_NumberOfState.mono _ _)
   | (with_reducible exact spec_PlayMoves.mono _ _ _)
   | (with_reducible exact spec_StateOfNumber.mono _ _ _)
   | (with_reducible exact LeO.refl _)
   | (with_reducible exact LeO.none _)
   | (with_reducible refine LeO.ite ?_ ?_)
   | (with_reducible refine LeO.bind ?_ (fun _ => ?_))
   | exact ih0 _ _ _ _ _ _ _ _
   | exact ih1 _ _ _ _ _ _ _ _ _ _ _ _ _
   | exact ih2 _ _ _ _ _ _
   | exact ih3 _ _ _ _ _ _ _ _ _ _ _
   | exact ih4 _ _ _ _ _ _ _ _
   | exact ih5 _ _ _ _ _ _ _ _ _ _ _ _ _
   | exact ih6 _ _ _ _ _ _ _ _ _ _ _ _
   | exact ih7 _ _ _ _ _ _ _ _ _ _ _ _ _
   | exact ih8 _ _ _ _ _ _ _ _ _ _ _ _ _ _ _ _
   | exact ih9 _ _ _ _ _ _ _ _ _ _ _ _ _ _ _ _ _
   | exact ih10 _ _ _ _ _ _ _ _ _ _ _
   | exact impl_FarthestFrom.mono _ _
   | exact impl_FewestMoves.mono _ _ _
   | exact impl_MoveThatFails.mono _ _ _
   | exact impl_MovesOf.mono _ _
   | exact impl_NumberOfState.mono _ _
   | exact impl_PlayMoves.mono _ _ _
   | exact impl_StateOfNumber.mono _ _ _
   | exact laws_ySame.mono _ _ _
   | exact laws_yTexts.mono _ _ _
   | exact spec_CountOn.mono _ _
   | exact spec_FarthestFrom.mono _ _
   | exact spec_IsState.mono _ _
   | exact spec_MoveRing.mono _ _ _
   | exact spec_MoveThatFails.mono _ _ _
   | exact spec_MovesOf.mono _ _
   | exact spec_NumberOfState.mono _ _
   | exact spec_PlayMoves.mono _ _ _
   | exact spec_StateOfNumber.mono _ _ _
   | exact LeO.none _
   | refine LeO.ite ?_ ?_
   | refine LeO.bind ?_ (fun _ => ?_)
  ·intro y0 y1 y2 y3 y4 y5 y6 y7 y8 y9 y10 y11 y12
   unfold laws_FnRingsMoveOfAll.l3
   repeat' first
   | (with_reducible exact ih0 _ _ _ _ _ _ _ _)
   | (with_reducible exact ih1 _ _ _ _ _ _ _ _ _ _ _ _ _)
   | (with_reducible exact ih2 _ _ _ _ _ _)
   | (with_reducible exact ih3 _ _ _ _ _ _ _ _ _ _ _)
   | (with_reducible exact ih4 _ _ _ _ _ _ _ _)
   | (with_reducible exact ih5 _ _ _ _ _ _ _ _ _ _ _ _ _)
   | (with_reducible exact ih6 _ _ _ _ _ _ _ _ _ _ _ _)
   | (with_reducible exact ih7 _ _ _ _ _ _ _ _ _ _ _ _ _)
   | (with_reducible exact ih8 _ _ _ _ _ _ _ _ _ _ _ _ _ _ _ _)
   | (with_reducible exact ih9 _ _ _ _ _ _ _ _ _ _ _ _ _ _ _ _ _)
   | (with_reducible exact ih10 _ _ _ _ _ _ _ _ _ _ _)
   | (with_reducible exact impl_FarthestFrom.mono _ _)
   | (with_reducible exact impl_FewestMoves.mono _ _ _)
   | (with_reducible exact impl_MoveThatFails.mono _ _ _)
   | (with_reducible exact impl_MovesOf.mono _ _)
   | (with_reducible exact impl_NumberOfState.mono _ _)
   | (with_reducible exact impl_PlayMoves.mono _ _ _)
   | (with_reducible exact impl_StateOfNumber.mono _ _ _)
   | (with_reducible exact laws_ySame.mono _ _ _)
   | (with_reducible exact laws_yTexts.mono _ _ _)
   | (with_reducible exact spec_CountOn.mono _ _)
   | (with_reducible exact spec_FarthestFrom.mono _ _)
   | (with_reducible exact spec_IsState.mono _ _)
   | (with_reducible exact spec_MoveRing.mono _ _ _)
   | (with_reducible exact spec_MoveThatFails.mono _ _ _)
   | (with_reducible exact spec_MovesOf.mono _ _)
   | (with_reducible exact spec_NumberOfState.mono _ _)
   | (with_reducible exact spec_PlayMoves.mono _ _ _)
   | (with_reducible exact spec_StateOfNumber.mono _ _ _)
   | (with_reducible exact LeO.refl _)
   | (with_reducible exact LeO.none _)
   | (with_reducible refine LeO.ite ?_ ?_)
   | (with_reducible refine LeO.bind ?_ (fun _ => ?_))
   | exact ih0 _ _ _ _ _ _ _ _
   | exact ih1 _ _ _ _ _ _ _ _ _ _ _ _ _
   | exact ih2 _ _ _ _ _ _
   | exact ih3 _ _ _ _ _ _ _ _ _ _ _
   | exact ih4 _ _ _ _ _ _ _ _
   | exact ih5 _ _ _ _ _ _ _ _ _ _ _ _ _
   | exact ih6 _ _ _ _ _ _ _ _ _ _ _ _
   | exact ih7 _ _ _ _ _ _ _ _ _ _ _ _ _
   | exact ih8 _ _ _ _ _ _ _ _ _ _ _ _ _ _ _ _
   | exact ih9 _ _ _ _ _ _ _ _ _ _ _ _ _ _ _ _ _
   | exact ih10 _ _ _ _ _ _ _ _ _ _ _
   | exact impl_FarthestFrom.mono _ _
   | exact impl_FewestMoves.mono _ _ _
   | exact impl_MoveThatFails.mono _ _ _
   | exact impl_MovesOf.mono _ _
   | exact impl_NumberOfState.mono _ _
   | exact impl_PlayMoves.mono _ _ _
   | exact impl_StateOfNumber.mono _ _ _
   | exact laws_ySame.mono _ _ _
   | exact laws_yTexts.mono _ _ _
   | exact spec_CountOn.mono _ _
   | exact spec_FarthestFrom.mono _ _
   | exact spec_IsState.mono _ _
   | exact spec_MoveRing.mono _ _ _
   | exact spec_MoveThatFails.mono _ _ _
   | exact spec_MovesOf.mono _ _
   | exact spec_NumberOfState.mono _ _
   | exact spec_PlayMoves.mono _ _ _
   | exact spec_StateOfNumber.mono _ _ _
   | exact LeO.none _
   | refine LeO.ite ?_ ?_
   | refine LeO.bind ?_ (fun _ => ?_)
  ·intro y0 y1 y2 y3 y4 y5 y6 y7 y8 y9 y10 y11
   unfold laws_FnRingsMoveOfAll.j2
   repeat' first
   | (with_reducible exact ih0 _ _ _ _ _ _ _ _)
   | (with_reducible exact ih1 _ _ _ _ _ _ _ _ _ _ _ _ _)
   | (with_reducible exact ih2 _ _ _ _ _ _)
   | (with_reducible exact ih3 _ _ _ _ _ _ _ _ _ _ _)
   | (with_reducible exact ih4 _ _ _ _ _ _ _ _)
   | (with_reducible exact ih5 _ _ _ _ _ _ _ _ _ _ _ _ _)
   | (with_reducible exact ih6 _ _ _ _ _ _ _ _ _ _ _ _)
   | (with_reducible exact ih7 _ _ _ _ _ _ _ _ _ _ _ _ _)
   | (with_reducible exact ih8 _ _ _ _ _ _ _ _ _ _ _ _ _ _ _ _)
   | (with_reducible exact ih9 _ _ _ _ _ _ _ _ _ _ _ _ _ _ _ _ _)
   | (with_reducible exact ih10 _ _ _ _ _ _ _ _ _ _ _)
   | (with_reducible exact impl_FarthestFrom.mono _ _)
   | (with_reducible exact impl_FewestMoves.mono _ _ _)
   | (with_reducible exact impl_MoveThatFails.mono _ _ _)
   | (with_reducible exact impl_MovesOf.mono _ _)
   | (with_reducible exact impl_NumberOfState.mono _ _)
   | (with_reducible exact impl_PlayMoves.mono _ _ _)
   | (with_reducible exact impl_StateOfNumber.mono _ _ _)
   | (with_reducible exact laws_ySame.mono _ _ _)
   | (with_reducible exact laws_yTexts.mono _ _ _)
   | (with_reducible exact spec_CountOn.mono _ _)
   | (with_reducible exact spec_FarthestFrom.mono _ _)
   | (with_reducible exact spec_IsState.mono _ _)
   | (with_reducible exact spec_MoveRing.mono _ _ _)
   | (with_reducible exact spec_MoveThatFails.mono _ _ _)
   | (with_reducible exact spec_MovesOf.mono _ _)
   | (with_reducible exact spec_NumberOfState.mono _ _)
   | (with_reducible exact spec_PlayMoves.mono _ _ _)
   | (with_reducible exact spec_StateOfNumber.mono _ _ _)
   | (with_reducible exact LeO.refl _)
   | (with_reducible exact LeO.none _)
   | (with_reducible refine LeO.ite ?_ ?_)
   | (with_reducible refine LeO.bind ?_ (fun _ => ?_))
   | exact ih0 _ _ _ _ _ _ _ _
   | exact ih1 _ _ _ _ _ _ _ _ _ _ _ _ _
   | exact ih2 _ _ _ _ _ _
   | exact ih3 _ _ _ _ _ _ _ _ _ _ _
   | exact ih4 _ _ _ _ _ _ _ _
   | exact ih5 _ _ _ _ _ _ _ _ _ _ _ _ _
   | exact ih6 _ _ _ _ _ _ _ _ _ _ _ _
   | exact ih7 _ _ _ _ _ _ _ _ _ _ _ _ _
   | exact ih8 _ _ _ _ _ _ _ _ _ _ _ _ _ _ _ _
   | exact ih9 _ _ _ _ _ _ _ _ _ _ _ _ _ _ _ _ _
   | exact ih10 _ _ _ _ _ _ _ _ _ _ _
   | exact impl_FarthestFrom.mono _ _
   | exact impl_FewestMoves.mono _ _ _
   | exact impl_MoveThatFails.mono _ _ _
   | exact impl_MovesOf.mono _ _
   | exact impl_NumberOfState.mono _ _
   | exact impl_PlayMoves.mono _ _ _
   | exact impl_StateOfNumber.mono _ _ _
   | exact laws_ySame.mono _ _ _
   | exact laws_yTexts.mono _ _ _
   | exact spec_CountOn.mono _ _
   | exact spec_FarthestFrom.mono _ _
   | exact spec_IsState.mono _ _
   | exact spec_MoveRing.mono _ _ _
   | exact spec_MoveThatFails.mono _ _ _
   | exact spec_MovesOf.mono _ _
   | exact spec_NumberOfState.mono _ _
   | exact spec_PlayMoves.mono _ _ _
   | exact spec_StateOfNumber.mono _ _ _
   | exact LeO.none _
   | refine LeO.ite ?_ ?_
   | refine LeO.bind ?_ (fun _ => ?_)
  ·intro y0 y1 y2 y3 y4 y5 y6 y7 y8 y9 y10 y11 y12
   unfold laws_FnRingsMoveOfAll.l0
   repeat' first
   | (with_reducible exact ih0 _ _ _ _ _ _ _ _)
   | (with_reducible exact ih1 _ _ _ _ _ _ _ _ _ _ _ _ _)
   | (with_reducible exact ih2 _ _ _ _ _ _)
   | (with_reducible exact ih3 _ _ _ _ _ _ _ _ _ _ _)
   | (with_reducible exact ih4 _ _ _ _ _ _ _ _)
   | (with_reducible exact ih5 _ _ _ _ _ _ _ _ _ _ _ _ _)
   | (with_reducible exact ih6 _ _ _ _ _ _ _ _ _ _ _ _)
   | (with_reducible exact ih7 _ _ _ _ _ _ _ _ _ _ _ _ _)
   | (with_reducible exact ih8 _ _ _ _ _ _ _ _ _ _ _ _ _ _ _ _)
   | (with_reducible exact ih9 _ _ _ _ _ _ _ _ _ _ _ _ _ _ _ _ _)
   | (with_reducible exact ih10 _ _ _ _ _ _ _ _ _ _ _)
   | (with_reducible exact impl_FarthestFrom.mono _ _)
   | (with_reducible exact impl_FewestMoves.mono _ _ _)
   | (with_reducible exact impl_MoveThatFails.mono _ _ _)
   | (with_reducible exact impl_MovesOf.mono _ _)
   | (with_reducible exact impl_NumberOfState.mono _ _)
   | (with_reducible exact impl_PlayMoves.mono _ _ _)
   | (with_reducible exact impl_StateOfNumber.mono _ _ _)
   | (with_reducible exact laws_ySame.mono _ _ _)
   | (with_reducible exact laws_yTexts.mono _ _ _)
   | (with_reducible exact spec_CountOn.mono _ _)
   | (with_reducible exact spec_FarthestFrom.mono _ _)
   | (with_reducible exact spec_IsState.mono _ _)
   | (with_reducible exact spec_MoveRing.mono _ _ _)
   | (with_reducible exact spec_MoveThatFails.mono _ _ _)
   | (with_reducible exact spec_MovesOf.mono _ _)
   | (with_reducible exact spec_NumberOfState.mono _ _)
   | (with_reducible exact spec_PlayMoves.mono _ _ _)
   | (with_reducible exact spec_StateOfNumber.mono _ _ _)
   | (with_reducible exact LeO.refl _)
   | (with_reducible exact LeO.none _)
   | (with_reducible refine LeO.ite ?_ ?_)
   | (with_reducible refine LeO.bind ?_ (fun _ => ?_))
   | exact ih0 _ _ _ _ _ _ _ _
   | exact ih1 _ _ _ _ _ _ _ _ _ _ _ _ _
   | exact ih2 _ _ _ _ _ _
   | exact ih3 _ _ _ _ _ _ _ _ _ _ _
   | exact ih4 _ _ _ _ _ _ _ _
   | exact ih5 _ _ _ _ _ _ _ _ _ _ _ _ _
   | exact ih6 _ _ _ _ _ _ _ _ _ _ _ _
   | exact ih7 _ _ _ _ _ _ _ _ _ _ _ _ _
   | exact ih8 _ _ _ _ _ _ _ _ _ _ _ _ _ _ _ _
   | exact ih9 _ _ _ _ _ _ _ _ _ _ _ _ _ _ _ _ _
   | exact ih10 _ _ _ _ _ _ _ _ _ _ _
   | exact impl_FarthestFrom.mono _ _
   | exact impl_FewestMoves.mono _ _ _
   | exact impl_MoveThatFails.mono _ _ _
   | exact impl_MovesOf.mono _ _
   | exact impl_NumberOfState.mono _ _
   | exact impl_PlayMoves.mono _ _ _
   | exact impl_StateOfNumber.mono _ _ _
   | exact laws_ySame.mono _ _ _
   | exact laws_yTexts.mono _ _ _
   | exact spec_CountOn.mono _ _
   | exact spec_FarthestFrom.mono _ _
   | exact spec_IsState.mono _ _
   | exact spec_MoveRing.mono _ _ _
   | exact spec_MoveThatFails.mono _ _ _
   | exact spec_MovesOf.mono _ _
   | exact spec_NumberOfState.mono _ _
   | exact spec_PlayMoves.mono _ _ _
   | exact spec_StateOfNumber.mono _ _ _
   | exact LeO.none _
   | refine LeO.ite ?_ ?_
   | refine LeO.bind ?_ (fun _ => ?_)
  ·intro y0 y1 y2 y3 y4 y5 y6 y7 y8 y9 y10 y11 y12 y13 y14 y15
   unfold laws_FnRingsMoveOfAll.j4
   repeat' first
   | (with_reducible exact ih0 _ _ _ _ _ _ _ _)
   | (with_reducible exact ih1 _ _ _ _ _ _ _ _ _ _ _ _ _)
   | (with_reducible exact ih2 _ _ _ _ _ _)
   | (with_reducible exact ih3 _ _ _ _ _ _ _ _ _ _ _)
   | (with_reducible exact ih4 _ _ _ _ _ _ _ _)
   | (with_reducible exact ih5 _ _ _ _ _ _ _ _ _ _ _ _ _)
   | (with_reducible exact ih6 _ _ _ _ _ _ _ _ _ _ _ _)
   | (with_reducible exact ih7 _ _ _ _ _ _ _ _ _ _ _ _ _)
   | (with_reducible exact ih8 _ _ _ _ _ _ _ _ _ _ _ _ _ _ _ _)
   | (with_reducible exact ih9 _ _ _ _ _ _ _ _ _ _ _ _ _ _ _ _ _)
   | (with_reducible exact ih10 _ _ _ _ _ _ _ _ _ _ _)
   | (with_reducible exact impl_FarthestFrom.mono _ _)
   | (with_reducible exact impl_FewestMoves.mono _ _ _)
   | (with_reducible exact impl_MoveThatFails.mono _ _ _)
   | (with_reducible exact impl_MovesOf.mono _ _)
   | (with_reducible exact impl_NumberOfState.mono _ _)
   | (with_reducible exact impl_PlayMoves.mono _ _ _)
   | (with_reducible exact impl_StateOfNumber.mono _ _ _)
   | (with_reducible exact laws_ySame.mono _ _ _)
   | (with_reducible exact laws_yTexts.mono _ _ _)
   | (with_reducible exact spec_CountOn.mono _ _)
   | (with_reducible exact spec_FarthestFrom.mono _ _)
   | (with_reducible exact spec_IsState.mono _ _)
   | (with_reducible exact spec_MoveRing.mono _ _ _)
   | (with_reducible exact spec_MoveThatFails.mono _ _ _)
   | (with_reducible exact spec_MovesOf.mono _ _)
   | (with_reducible exact spec_NumberOfState.mono _ _)
   | (with_reducible exact spec_PlayMoves.mono _ _ _)
   | (with_reducible exact spec_StateOfNumber.mono _ _ _)
   | (with_reducible exact LeO.refl _)
   | (with_reducible exact LeO.none _)
   | (with_reducible refine LeO.ite ?_ ?_)
   | (with_reducible refine LeO.bind ?_ (fun _ => ?_))
   | exact ih0 _ _ _ _ _ _ _ _
   | exact ih1 _ _ _ _ _ _ _ _ _ _ _ _ _
   | exact ih2 _ _ _ _ _ _
   | exact ih3 _ _ _ _ _ _ _ _ _ _ _
   | exact ih4 _ _ _ _ _ _ _ _
   | exact ih5 _ _ _ _ _ _ _ _ _ _ _ _ _
   | exact ih6 _ _ _ _ _ _ _ _ _ _ _ _
   | exact ih7 _ _ _ _ _ _ _ _ _ _ _ _ _
   | exact ih8 _ _ _ _ _ _ _ _ _ _ _ _ _ _ _ _
   | exact ih9 _ _ _ _ _ _ _ _ _ _ _ _ _ _ _ _ _
   | exact ih10 _ _ _ _ _ _ _ _ _ _ _
   | exact impl_FarthestFrom.mono _ _
   | exact impl_FewestMoves.mono _ _ _
   | exact impl_MoveThatFails.mono _ _ _
   | exact impl_MovesOf.mono _ _
   | exact impl_NumberOfState.mono _ _
   | exact impl_PlayMoves.mono _ _ _
   | exact impl_StateOfNumber.mono _ _ _
   | exact laws_ySame.mono _ _ _
   | exact laws_yTexts.mono _ _ _
   | exact spec_CountOn.mono _ _
   | exact spec_FarthestFrom.mono _ _
   | exact spec_IsState.mono _ _
   | exact spec_MoveRing.mono _ _ _
   | exact spec_MoveThatFails.mono _ _ _
   | exact spec_MovesOf.mono _ _
   | exact spec_NumberOfState.mono _ _
   | exact spec_PlayMoves.mono _ _ _
   | exact spec_StateOfNumber.mono _ _ _
   | exact LeO.none _
   | refine LeO.ite ?_ ?_
   | refine LeO.bind ?_ (fun _ => ?_)
  ·intro y0 y1 y2 y3 y4 y5 y6 y7 y8 y9 y10 y11 y12 y13 y14 y15 y16
   unfold laws_FnRingsMoveOfAll.l1
   repeat' first
   | (with_reducible exact ih0 _ _ _ _ _ _ _ _)
   | (with_reducible exact ih1 _ _ _ _ _ _ _ _ _ _ _ _ _)
   | (with_reducible exact ih2 _ _ _ _ _ _)
   | (with_reducible exact ih3 _ _ _ _ _ _ _ _ _ _ _)
   | (with_reducible exact ih4 _ _ _ _ _ _ _ _)
   | (with_reducible exact ih5 _ _ _ _ _ _ _ _ _ _ _ _ _)
   | (with_reducible exact ih6 _ _ _ _ _ _ _ _ _ _ _ _)
   | (with_reducible exact ih7 _ _ _ _ _ _ _ _ _ _ _ _ _)
   | (with_reducible exact ih8 _ _ _ _ _ _ _ _ _ _ _ _ _ _ _ _)
   | (with_reducible exact ih9 _ _ _ _ _ _ _ _ _ _ _ _ _ _ _ _ _)
   | (with_reducible exact ih10 _ _ _ _ _ _ _ _ _ _ _)
   | (with_reducible exact impl_FarthestFrom.mono _ _)
   | (with_reducible exact impl_FewestMoves.mono _ _ _)
   | (with_reducible exact impl_MoveThatFails.mono _ _ _)
   | (with_reducible exact impl_MovesOf.mono _ _)
   | (with_reducible exact impl_NumberOfState.mono _ _)
   | (with_reducible exact impl_PlayMoves.mono _ _ _)
   | (with_reducible exact impl_StateOfNumber.mono _ _ _)
   | (with_reducible exact laws_ySame.mono _ _ _)
   | (with_reducible exact laws_yTexts.mono _ _ _)
   | (with_reducible exact spec_CountOn.mono _ _)
   | (with_reducible exact spec_FarthestFrom.mono _ _)
   | (with_reducible exact spec_IsState.mono _ _)
   | (with_reducible exact spec_MoveRing.mono _ _ _)
   | (with_reducible exact spec_MoveThatFails.mono _ _ _)
   | (with_reducible exact spec_MovesOf.mono _ _)
   | (with_reducible exact spec_NumberOfState.mono _ _)
   | (with_reducible exact spec_PlayMoves.mono _ _ _)
   | (with_reducible exact spec_StateOfNumber.mono _ _ _)
   | (with_reducible exact LeO.refl _)
   | (with_reducible exact LeO.none _)
   | (with_reducible refine LeO.ite ?_ ?_)
   | (with_reducible refine LeO.bind ?_ (fun _ => ?_))
   | exact ih0 _ _ _ _ _ _ _ _
   | exact ih1 _ _ _ _ _ _ _ _ _ _ _ _ _
   | exact ih2 _ _ _ _ _ _
   | exact ih3 _ _ _ _ _ _ _ _ _ _ _
   | exact ih4 _ _ _ _ _ _ _ _
   | exact ih5 _ _ _ _ _ _ _ _ _ _ _ _ _
   | exact ih6 _ _ _ _ _ _ _ _ _ _ _ _
   | exact ih7 _ _ _ _ _ _ _ _ _ _ _ _ _
   | exact ih8 _ _ _ _ _ _ _ _ _ _ _ _ _ _ _ _
   | exact ih9 _ _ _ _ _ _ _ _ _ _ _ _ _ _ _ _ _
   | exact ih10 _ _ _ _ _ _ _ _ _ _ _
   | exact impl_FarthestFrom.mono _ _
   | exact impl_FewestMoves.mono _ _ _
   | exact impl_MoveThatFails.mono _ _ _
   | exact impl_MovesOf.mono _ _
   | exact impl_NumberOfState.mono _ _
   | exact impl_PlayMoves.mono _ _ _
   | exact impl_StateOfNumber.mono _ _ _
   | exact laws_ySame.mono _ _ _
   | exact laws_yTexts.mono _ _ _
   | exact spec_CountOn.mono _ _
   | exact spec_FarthestFrom.mono _ _
   | exact spec_IsState.mono _ _
   | exact spec_MoveRing.mono _ _ _
   | exact spec_MoveThatFails.mono _ _ _
   | exact spec_MovesOf.mono _ _
   | exact spec_NumberOfState.mono _ _
   | exact spec_PlayMoves.mono _ _ _
   | exact spec_StateOfNumber.mono _ _ _
   | exact LeO.none _
   | refine LeO.ite ?_ ?_
   | refine LeO.bind ?_ (fun _ => ?_)
  ·intro y0 y1 y2 y3 y4 y5 y6 y7 y8 y9 y10
   unfold laws_FnRingsMoveOfAll.l2
   repeat' first
   | (with_reducible exact ih0 _ _ _ _ _ _ _ _)
   | (with_reducible exact ih1 _ _ _ _ _ _ _ _ _ _ _ _ _)
   | (with_reducible exact ih2 _ _ _ _ _ _)
   | (with_reducible exact ih3 _ _ _ _ _ _ _ _ _ _ _)
   | (with_reducible exact ih4 _ _ _ _ _ _ _ _)
   | (with_reducible exact ih5 _ _ _ _ _ _ _ _ _ _ _ _ _)
   | (with_reducible exact ih6 _ _ _ _ _ _ _ _ _ _ _ _)
   | (with_reducible exact ih7 _ _ _ _ _ _ _ _ _ _ _ _ _)
   | (with_reducible exact ih8 _ _ _ _ _ _ _ _ _ _ _ _ _ _ _ _)
   | (with_reducible exact ih9 _ _ _ _ _ _ _ _ _ _ _ _ _ _ _ _ _)
   | (with_reducible exact ih10 _ _ _ _ _ _ _ _ _ _ _)
   | (with_reducible exact impl_FarthestFrom.mono _ _)
   | (with_reducible exact impl_FewestMoves.mono _ _ _)
   | (with_reducible exact impl_MoveThatFails.mono _ _ _)
   | (with_reducible exact impl_MovesOf.mono _ _)
   | (with_reducible exact impl_NumberOfState.mono _ _)
   | (with_reducible exact impl_PlayMoves.mono _ _ _)
   | (with_reducible exact impl_StateOfNumber.mono _ _ _)
   | (with_reducible exact laws_ySame.mono _ _ _)
   | (with_reducible exact laws_yTexts.mono _ _ _)
   | (with_reducible exact spec_CountOn.mono _ _)
   | (with_reducible exact spec_FarthestFrom.mono _ _)
   | (with_reducible exact spec_IsState.mono _ _)
   | (with_reducible exact spec_MoveRing.mono _ _ _)
   | (with_reducible exact spec_MoveThatFails.mono _ _ _)
   | (with_reducible exact spec_MovesOf.mono _ _)
   | (with_reducible exact spec_NumberOfState.mono _ _)
   | (with_reducible exact spec_PlayMoves.mono _ _ _)
   | (with_reducible exact spec_StateOfNumber.mono _ _ _)
   | (with_reducible exact LeO.refl _)
   | (with_reducible exact LeO.none _)
   | (with_reducible refine LeO.ite ?_ ?_)
   | (with_reducible refine LeO.bind ?_ (fun _ => ?_))
   | exact ih0 _ _ _ _ _ _ _ _
   | exact ih1 _ _ _ _ _ _ _ _ _ _ _ _ _
   | exact ih2 _ _ _ _ _ _
   | exact ih3 _ _ _ _ _ _ _ _ _ _ _
   | exact ih4 _ _ _ _ _ _ _ _
   | exact ih5 _ _ _ _ _ _ _ _ _ _ _ _ _
   | exact ih6 _ _ _ _ _ _ _ _ _ _ _ _
   | exact ih7 _ _ _ _ _ _ _ _ _ _ _ _ _
   | exact ih8 _ _ _ _ _ _ _ _ _ _ _ _ _ _ _ _
   | exact ih9 _ _ _ _ _ _ _ _ _ _ _ _ _ _ _ _ _
   | exact ih10 _ _ _ _ _ _ _ _ _ _ _
   | exact impl_FarthestFrom.mono _ _
   | exact impl_FewestMoves.mono _ _ _
   | exact impl_MoveThatFails.mono _ _ _
   | exact impl_MovesOf.mono _ _
   | exact impl_NumberOfState.mono _ _
   | exact impl_PlayMoves.mono _ _ _
   | exact impl_StateOfNumber.mono _ _ _
   | exact laws_ySame.mono _ _ _
   | exact laws_yTexts.mono _ _ _
   | exact spec_CountOn.mono _ _
   | exact spec_FarthestFrom.mono _ _
   | exact spec_IsState.mono _ _
   | exact spec_MoveRing.mono _ _ _
   | exact spec_MoveThatFails.mono _ _ _
   | exact spec_MovesOf.mono _ _
   | exact spec_NumberOfState.mono _ _
   | exact spec_PlayMoves.mono _ _ _
   | exact spec_StateOfNumber.mono _ _ _
   | exact LeO.none _
   | refine LeO.ite ?_ ?_
   | refine LeO.bind ?_ (fun _ => ?_)
theorem laws_FnRingsMoveOfAll.mono : ∀ a0 a1 a2 a3 a4 a5 a6 k, LeO (laws_FnRingsMoveOfAll.f k a0 a1 a2 a3 a4 a5 a6) (laws_FnRingsMoveOfAll.f (k + 1) a0 a1 a2 a3 a4 a5 a6) := by
 intro a0 a1 a2 a3 a4 a5 a6 k
 obtain ⟨ih0, ih1, ih2, ih3, ih4, ih5, ih6, ih7, ih8, ih9, ih10⟩ := laws_FnRingsMoveOfAll.mono_l k
 unfold laws_FnRingsMoveOfAll.f
 repeat' first
   | (with_reducible exact ih0 _ _ _ _ _ _ _ _)
   | (with_reducible exact ih1 _ _ _ _ _ _ _ _ _ _ _ _ _)
   | (with_reducible exact ih2 _ _ _ _ _ _)
   | (with_reducible exact ih3 _ _ _ _ _ _ _ _ _ _ _)
   | (with_reducible exact ih4 _ _ _ _ _ _ _ _)
   | (with_reducible exact ih5 _ _ _ _ _ _ _ _ _ _ _ _ _)
   | (with_reducible exact ih6 _ _ _ _ _ _ _ _ _ _ _ _)
   | (with_reducible exact ih7 _ _ _ _ _ _ _ _ _ _ _ _ _)
   | (with_reducible exact ih8 _ _ _ _ _ _ _ _ _ _ _ _ _ _ _ _)
   | (with_reducible exact ih9 _ _ _ _ _ _ _ _ _ _ _ _ _ _ _ _ _)
   | (with_reducible exact ih10 _ _ _ _ _ _ _ _ _ _ _)
   | (with_reducible exact impl_FarthestFrom.mono _ _)
   | (with_reducible exact impl_FewestMoves.mono _ _ _)
   | (with_reducible exact impl_MoveThatFails.mono _ _ _)
   | (with_reducible exact impl_MovesOf.mono _ _)
   | (with_reducible exact impl_NumberOfState.mono _ _)
   | (with_reducible exact impl_PlayMoves.mono _ _ _)
   | (with_reducible exact impl_StateOfNumber.mono _ _ _)
   | (with_reducible exact laws_ySame.mono _ _ _)
   | (with_reducible exact laws_yTexts.mono _ _ _)
   | (with_reducible exact spec_CountOn.mono _ _)
   | (with_reducible exact spec_FarthestFrom.mono _ _)
   | (with_reducible exact spec_IsState.mono _ _)
   | (with_reducible exact spec_MoveRing.mono _ _ _)
   | (with_reducible exact spec_MoveThatFails.mono _ _ _)
   | (with_reducible exact spec_MovesOf.mono _ _)
   | (with_reducible exact spec_NumberOfState.mono _ _)
   | (with_reducible exact spec_PlayMoves.mono _ _ _)
   | (with_reducible exact spec_StateOfNumber.mono _ _ _)
   | (with_reducible exact LeO.refl _)
   | (with_reducible exact LeO.none _)
   | (with_reducible refine LeO.ite ?_ ?_)
   | (with_reducible refine LeO.bind ?_ (fun _ => ?_))
   | exact ih0 _ _ _ _ _ _ _ _
   | exact ih1 _ _ _ _ _ _ _ _ _ _ _ _ _
   | exact ih2 _ _ _ _ _ _
   | exact ih3 _ _ _ _ _ _ _ _ _ _ _
   | exact ih4 _ _ _ _ _ _ _ _
   | exact ih5 _ _ _ _ _ _ _ _ _ _ _ _ _
   | exact ih6 _ _ _ _ _ _ _ _ _ _ _ _
   | exact ih7 _ _ _ _ _ _ _ _ _ _ _ _ _
   | exact ih8 _ _ _ _ _ _ _ _ _ _ _ _ _ _ _ _
   | exact ih9 _ _ _ _ _ _ _ _ _ _ _ _ _ _ _ _ _
   | exact ih10 _ _ _ _ _ _ _ _ _ _ _
   | exact impl_FarthestFrom.mono _ _
   | exact impl_FewestMoves.mono _ _ _
   | exact impl_MoveThatFails.mono _ _ _
   | exact impl_MovesOf.mono _ _
   | exact impl_NumberOfState.mono _ _
   | exact impl_PlayMoves.mono _ _ _
   | exact impl_StateOfNumber.mono _ _ _
   | exact laws_ySame.mono _ _ _
   | exact laws_yTexts.mono _ _ _
   | exact spec_CountOn.mono _ _
   | exact spec_FarthestFrom.mono _ _
   | exact spec_IsState.mono _ _
   | exact spec_MoveRing.mono _ _ _
   | exact spec_MoveThatFails.mono _ _ _
   | exact spec_MovesOf.mono _ _
   | exact spec_NumberOfState.mono _ _
   | exact spec_PlayMoves.mono _ _ _
   | exact spec_StateOfNumber.mono _ _ _
   | exact LeO.none _
   | refine LeO.ite ?_ ?_
   | refine LeO.bind ?_ (fun _ => ?_)
def laws_FnRingsMoveOfAll.Pure : Prop := ∀ (a0 : ByteArray) (a1 : ByteArray) (l2 : List Int) (a3 : ByteArray) (a4 : Int) (a5 : Int) (a6 : Int), a0.size ≤ 140737488351232 → a1.size ≤ 140737488351232 → l2.length ≤ maxLen → l2.length * 8 ≤ 140737488351232 → (∀ x ∈ l2, (Lit.int .i64 x).wf = true) → a3.size ≤ 140737488351232 → (Lit.int .i64 a4).wf = true → (Lit.int .i64 a5).wf = true → (Lit.int .i64 a6).wf = true → ∃ k, laws_FnRingsMoveOfAll.f k a0 a1 l2 a3 a4 a5 a6 = some true
/-- what is left open, told apart from what holds -/
structure Hole (P : Prop) : Prop where mk :: (out : P)
abbrev o_ : Bool := false
abbrev i_ : Bool := true
/-- a frame in which the marked slots hold whatever f says -/
def maskF : List Bool → List Value → (Nat → Value) → Nat → List Value
 | [], l, _, _ => l
 | _ :: _, [], _, _ => []
 | true :: bs, _ :: l, f, i => f i :: maskF bs l f (i + 1)
 | false :: bs, x :: l, f, i => x :: maskF bs l f (i + 1)
/-- the frame l, its marked slots out of l' -/
def mergeF : List Bool → List Value → List Value → List Value
 | [], l, _ => l
 | _ :: _, [], _ => []
 | _ :: _, x :: l, [] => x :: l
 | true :: bs, _ :: l, y :: l' => y :: mergeF bs l l'
 | false :: bs, x :: l, _ :: l' => x :: mergeF bs l l'
def slotF : List Value → Nat → Value
 | [], _ => .bool false
 | x :: _, 0 => x
 | _ :: l, n + 1 => slotF l n
theorem mask_merge : ∀ (bs : List Bool) (l l' : List Value) (f : Nat → Value) (i : Nat), mergeF bs l l' = l' → (∀ j, f (i + j) = slotF l' j) → maskF bs l f i = l'
 | [], l, l', f, i, h, _ => by cases l <;> exact h
 | b :: bs, [], l', f, i, h, _ => by cases b <;> (first | exact h | (simp only [mergeF] at h; rw [← h]; rfl))
 | b :: bs, x :: l, [], f, i, h, _ => by cases b <;> simp [mergeF] at h
 | true :: bs, x :: l, y :: l', f, i, h, hf => by
  simp only [mergeF, List.cons.injEq, true_and] at h
  simp only [maskF]
  rw [mask_merge bs l l' f (i + 1) h (fun j => by rw [show i + 1 + j = i + (j + 1) by omega, hf]; rfl), show f i = y from hf 0]
 | false :: bs, x :: l, y :: l', f, i, h, hf => by
  simp only [mergeF, List.cons.injEq] at h
  simp only [maskF]
  rw [mask_merge bs l l' f (i + 1) h.2 (fun j => by rw [show i + 1 + j = i + (j + 1) by omega, hf]; rfl), h.1]
/-- ways that meet again: the slots that a statement may write are told by one function instead of a letter each -/
theorem wp_cutF {P : Program} {s : Code} {K : Act → World → Prop} {Q' : Exit → Act → World → Prop} {l : List Value} {w : World} (bs : List Bool) (R : (Nat → Value) → World → Prop)
  (rest : ∀ f w', R f w' → K ⟨(maskF bs l f 0).toArray, []⟩ w')
  (first : ∀ (J K' : Act → World → Prop), (∀ l' w', mergeF bs l l' = l' → R (slotF l') w' → J ⟨l'.toArray, []⟩ w') → (∀ a' w', Met J a' w' → K' a' w') → s.wp P (Exit.then K' Q') ⟨l.toArray, []⟩ w) : s.wp P (Exit.then K Q') ⟨l.toArray, []⟩ w := by
 refine wp_cut (fun a' w' => ∃ l', a' = ⟨l'.toArray, []⟩ ∧ mergeF bs l l' = l' ∧ R (slotF l') w') ?_ ?_
 ·rintro a' w' ⟨l', rfl, h1, h2⟩
  have := rest (slotF l') w' h2
  rwa [mask_merge bs l l' (slotF l') 0 h1 (fun j => by rw [Nat.zero_add])] at this
 ·intro J K' hJ hK
  exact first J K' (fun l' w' h1 h2 => hJ _ _ ⟨l', rfl, h1, h2⟩) hK
end Go.Proofs.YtahdlpadcbigaaaDoor.A
