-- written by a program of this session's over the kit's print (xp.py)
import Derived.Test.YtcejcobbfpbpoaaDoorAx0
import Derived.Test.YtcejcobbfpbpoaaDoorAx1
import Derived.Test.YtcejcobbfpbpoaaDoorAx2
import Derived.Test.YtcejcobbfpbpoaaDoorAx3
import Derived.Test.YtcejcobbfpbpoaaDoorAx4
namespace Go.Proofs.YtcejcobbfpbpoaaDoor.A
open Go.RowKit Go.Proofs.YtcejcobbfpbpoaaDoorW.PrintWords Go.Proofs.YtcejcobbfpbpoaaDoorW.PrintLast Go.Proofs.YtcejcobbfpbpoaaDoorW.PrintMore
attribute [local go_sem] max2_int min2_int max_two min_two max_three min_three max_four min_four   -- for this text's walks alone
set_option linter.unusedVariables false
set_option linter.unusedSimpArgs false

/-! ### laws_FnNumbersReflectOfAll: function 3 -/
mutual
def laws_FnNumbersReflectOfAll.j0 : Nat → Int → Int → Int → Int → Int → Int → Int → Int → ByteArray → Int → Bool → Int → Bool → Option (Bool)
  | 0, _, _, _, _, _, _, _, _, _, _, _, _, _ => none
  | k + 1, x0, x1, x2, x3, x4, x5, x6, x7, x8, x19, x20, x27, x139 => if x139 = true then (some false) else (if x20 = true then ((impl_NumberOfReflected.f k x19).bind fun bt163 => ((impl_PlainSum.f x0 (wrap64 (Int.tdiv x0 2))).bind fun bt165 => (if bt163.2 = true then (if bt163.1 = x0 then (if bt165.2 = true then (laws_FnNumbersReflectOfAll.j1 k x0 x1 x2 x3 x4 x5 x6 x7 x8 x19 x27 (bt165.1 != x19)) else (laws_FnNumbersReflectOfAll.j1 k x0 x1 x2 x3 x4 x5 x6 x7 x8 x19 x27 true)) else (laws_FnNumbersReflectOfAll.j1 k x0 x1 x2 x3 x4 x5 x6 x7 x8 x19 x27 true)) else (if bt165.2 = true then (laws_FnNumbersReflectOfAll.j1 k x0 x1 x2 x3 x4 x5 x6 x7 x8 x19 x27 (bt165.1 != x19)) else (laws_FnNumbersReflectOfAll.j1 k x0 x1 x2 x3 x4 x5 x6 x7 x8 x19 x27 true))))) else (laws_FnNumbersReflectOfAll.j3 k x1 x2 x3 x4 x5 x6 x7 x8))
def laws_FnNumbersReflectOfAll.j3 : Nat → Int → Int → Int → Int → Int → Int → Int → ByteArray → Option (Bool)
  | 0, _, _, _, _, _, _, _, _ => none
  | k + 1, x1, x2, x3, x4, x5, x6, x7, x8 => (impl_PlainSum.f x1 x2).bind fun bt173 => ((spec_PlainSum.f x1 x2).bind fun bt175 => ((impl_TimesChanged.f k x3 x4 x5).bind fun bt177 => ((spec_TimesChanged.f k x3 x4 x5).bind fun bt179 => ((impl_ReflectedText.f k x6 x7).bind fun bt181 => ((spec_ReflectedText.f k x6 x7).bind fun bt183 => ((impl_RankOfText.f k x8).bind fun bt185 => ((spec_RankOfText.f k x8).bind fun bt187 => (if (bt173.2 != bt175.2) = true then (laws_FnNumbersReflectOfAll.j4 k x1 x2 x3 x4 x5 x6 x7 x8 bt173.1 bt173.2 bt177.1 bt177.2 bt181.1 bt181.2 bt185.1 bt185.2 true) else (if bt173.1 = bt175.1 then (if (bt177.2 != bt179.2) = true then (laws_FnNumbersReflectOfAll.j4 k x1 x2 x3 x4 x5 x6 x7 x8 bt173.1 bt173.2 bt177.1 bt177.2 bt181.1 bt181.2 bt185.1 bt185.2 true) else (if bt177.1 = bt179.1 then (if (bt181.2 != bt183.2) = true then (laws_FnNumbersReflectOfAll.j4 k x1 x2 x3 x4 x5 x6 x7 x8 bt173.1 bt173.2 bt177.1 bt177.2 bt181.1 bt181.2 bt185.1 bt185.2 true) else (if bt181.1.toList = bt183.1.toList then (if (bt185.2 != bt187.2) = true then (laws_FnNumbersReflectOfAll.j4 k x1 x2 x3 x4 x5 x6 x7 x8 bt173.1 bt173.2 bt177.1 bt177.2 bt181.1 bt181.2 bt185.1 bt185.2 true) else (laws_FnNumbersReflectOfAll.j4 k x1 x2 x3 x4 x5 x6 x7 x8 bt173.1 bt173.2 bt177.1 bt177.2 bt181.1 bt181.2 bt185.1 bt185.2 (bt185.1 != bt187.1))) else (laws_FnNumbersReflectOfAll.j4 k x1 x2 x3 x4 x5 x6 x7 x8 bt173.1 bt173.2 bt177.1 bt177.2 bt181.1 bt181.2 bt185.1 bt185.2 true))) else (laws_FnNumbersReflectOfAll.j4 k x1 x2 x3 x4 x5 x6 x7 x8 bt173.1 bt173.2 bt177.1 bt177.2 bt181.1 bt181.2 bt185.1 bt185.2 true))) else (laws_FnNumbersReflectOfAll.j4 k x1 x2 x3 x4 x5 x6 x7 x8 bt173.1 bt173.2 bt177.1 bt177.2 bt181.1 bt181.2 bt185.1 bt185.2 true))))))))))
def laws_FnNumbersReflectOfAll.j4 : Nat → Int → Int → Int → Int → Int → Int → Int → ByteArray → Int → Bool → Int → Bool → ByteArray → Bool → Int → Bool → Bool → Option (Bool)
  | 0, _, _, _, _, _, _, _, _, _, _, _, _, _, _, _, _, _ => none
  | k + 1, x1, x2, x3, x4, x5, x6, x7, x8, x41, x42, x45, x46, x49, x50, x53, x54, x293 => if x293 = true then (some false) else (if x42 = true then ((impl_PlainSum.f x2 x1).bind fun bt189 => ((impl_PlainSum.f x41 x2).bind fun bt191 => (if bt189.2 = true then (if bt189.1 = x41 then (if bt191.2 = true then (if bt191.1 = x1 then (laws_FnNumbersReflectOfAll.j5 k x3 x4 x5 x6 x7 x8 x45 x46 x49 x50 x53 x54) else (some false)) else (laws_FnNumbersReflectOfAll.j5 k x3 x4 x5 x6 x7 x8 x45 x46 x49 x50 x53 x54)) else (some false)) else (some false)))) else (laws_FnNumbersReflectOfAll.j5 k x3 x4 x5 x6 x7 x8 x45 x46 x49 x50 x53 x54))
def laws_FnNumbersReflectOfAll.j5 : Nat → Int → Int → Int → Int → Int → ByteArray → Int → Bool → ByteArray → Bool → Int → Bool → Option (Bool)
  | 0, _, _, _, _, _, _, _, _, _, _, _, _ => none
  | k + 1, x3, x4, x5, x6, x7, x8, x45, x46, x49, x50, x53, x54 => if x46 = true then (if x45 < 0 then (laws_FnNumbersReflectOfAll.j6 k x3 x4 x5 x6 x7 x8 x45 x49 x50 x53 x54 true) else (laws_FnNumbersReflectOfAll.j6 k x3 x4 x5 x6 x7 x8 x45 x49 x50 x53 x54 (decide ((wrap64 (x4 - x3)) < x45)))) else (laws_FnNumbersReflectOfAll.j8 k x6 x7 x8 x49 x50 x53 x54)
def laws_FnNumbersReflectOfAll.j8 : Nat → Int → Int → ByteArray → ByteArray → Bool → Int → Bool → Option (Bool)
  | 0, _, _, _, _, _, _, _ => none
  | k + 1, x6, x7, x8, x49, x50, x53, x54 => if x50 = true then ((impl_RankOfText.f k x49).bind fun bt195 => (if (x49.size : Int) = x7 then (if bt195.2 = true then (laws_FnNumbersReflectOfAll.j9 k x8 x53 x54 (bt195.1 != x6)) else (laws_FnNumbersReflectOfAll.j9 k x8 x53 x54 true)) else (laws_FnNumbersReflectOfAll.j9 k x8 x53 x54 true))) else (if x54 = true then ((impl_ReflectedText.f k x53 (x8.size : Int)).bind fun bt199 => (if bt199.2 = true then (some (bt199.1.toList == x8.toList)) else (some true))) else (some true))
def laws_FnNumbersReflectOfAll.j9 : Nat → ByteArray → Int → Bool → Bool → Option (Bool)
  | 0, _, _, _, _ => none
  | k + 1, x8, x53, x54, x375 => if x375 = true then (some false) else (if x54 = true then ((impl_ReflectedText.f k x53 (x8.size : Int)).bind fun bt197 => (if bt197.2 = true then (some (bt197.1.toList == x8.toList)) else (some true))) else (some true))
def laws_FnNumbersReflectOfAll.j6 : Nat → Int → Int → Int → Int → Int → ByteArray → Int → ByteArray → Bool → Int → Bool → Bool → Option (Bool)
  | 0, _, _, _, _, _, _, _, _, _, _, _, _ => none
  | k + 1, x3, x4, x5, x6, x7, x8, x45, x49, x50, x53, x54, x331 => if x331 = true then (some false) else (if (wrap64 (x4 - x3)) ≤ 64 then (laws_FnNumbersReflectOfAll.l0 k x4 x5 x6 x7 x8 x45 x49 x50 x53 x54 0 x3) else (laws_FnNumbersReflectOfAll.j8 k x6 x7 x8 x49 x50 x53 x54))
def laws_FnNumbersReflectOfAll.l0 : Nat → Int → Int → Int → Int → ByteArray → Int → ByteArray → Bool → Int → Bool → Int → Int → Option (Bool)
  | 0, _, _, _, _, _, _, _, _, _, _, _, _ => none
  | k + 1, x4, x5, x6, x7, x8, x45, x49, x50, x53, x54, x61, x62 => if x62 < x4 then ((impl_ChangedDigit.f k x62).bind fun bt193 => (if bt193.2 = true then (if bt193.1 = x5 then (laws_FnNumbersReflectOfAll.l0 k x4 x5 x6 x7 x8 x45 x49 x50 x53 x54 (wrap64 (x61 + 1)) (wrap64 (x62 + 1))) else (laws_FnNumbersReflectOfAll.l0 k x4 x5 x6 x7 x8 x45 x49 x50 x53 x54 x61 (wrap64 (x62 + 1)))) else (some false))) else (if x61 = x45 then (laws_FnNumbersReflectOfAll.j8 k x6 x7 x8 x49 x50 x53 x54) else (some false))
def laws_FnNumbersReflectOfAll.j1 : Nat → Int → Int → Int → Int → Int → Int → Int → Int → ByteArray → Int → Int → Bool → Option (Bool)
  | 0, _, _, _, _, _, _, _, _, _, _, _, _ => none
  | k + 1, x0, x1, x2, x3, x4, x5, x6, x7, x8, x19, x27, x167 => if x167 = true then (some false) else ((impl_ReflectedOf.f (wrap64 (x0 + 1))).bind fun bt167 => (if bt167.2 = true then (if 0 ≤ x27 then (laws_FnNumbersReflectOfAll.j2 k x0 x1 x2 x3 x4 x5 x6 x7 x8 ((Go.bits .xor .i64 bt167.1 x19) != (shl .i64 1 x27))) else (none)) else (laws_FnNumbersReflectOfAll.j2 k x0 x1 x2 x3 x4 x5 x6 x7 x8 false)))
def laws_FnNumbersReflectOfAll.j2 : Nat → Int → Int → Int → Int → Int → Int → Int → Int → ByteArray → Bool → Option (Bool)
  | 0, _, _, _, _, _, _, _, _, _, _ => none
  | k + 1, x0, x1, x2, x3, x4, x5, x6, x7, x8, x182 => if x182 = true then (some false) else ((impl_ReflectedText.f k x0 40).bind fun bt169 => ((impl_RankOfText.f k bt169.1).bind fun bt171 => (if bt169.2 = true then (if bt171.2 = true then (if bt171.1 = x0 then (if (bt169.1.size : Int) = 40 then (laws_FnNumbersReflectOfAll.j3 k x1 x2 x3 x4 x5 x6 x7 x8) else (some false)) else (some false)) else (some false)) else (laws_FnNumbersReflectOfAll.j3 k x1 x2 x3 x4 x5 x6 x7 x8))))
end
def laws_FnNumbersReflectOfAll.f (k : Nat) (a0 : Int) (a1 : Int) (a2 : Int) (a3 : Int) (a4 : Int) (a5 : Int) (a6 : Int) (a7 : Int) (a8 : ByteArray) : Option (Bool) := if (a8.size : Int) > 1048576 then (some true) else ((impl_ReflectedOf.f a0).bind fun bt151 => ((spec_ReflectedOf.f a0).bind fun bt153 => ((impl_NumberOfReflected.f k a0).bind fun bt155 => ((spec_NumberOfReflected.f k a0).bind fun bt157 => ((impl_ChangedDigit.f k a0).bind fun bt159 => ((spec_ChangedDigit.f k a0).bind fun bt161 => (if (bt151.2 != bt153.2) = true then (laws_FnNumbersReflectOfAll.j0 k a0 a1 a2 a3 a4 a5 a6 a7 a8 bt151.1 bt151.2 bt159.1 true) else (if bt151.1 = bt153.1 then (if (bt155.2 != bt157.2) = true then (laws_FnNumbersReflectOfAll.j0 k a0 a1 a2 a3 a4 a5 a6 a7 a8 bt151.1 bt151.2 bt159.1 true) else (if bt155.1 = bt157.1 then (if (bt159.2 != bt161.2) = true then (laws_FnNumbersReflectOfAll.j0 k a0 a1 a2 a3 a4 a5 a6 a7 a8 bt151.1 bt151.2 bt159.1 true) else (if bt159.1 = bt161.1 then (if (bt155.2 != bt151.2) = true then (laws_FnNumbersReflectOfAll.j0 k a0 a1 a2 a3 a4 a5 a6 a7 a8 bt151.1 bt151.2 bt159.1 true) else (laws_FnNumbersReflectOfAll.j0 k a0 a1 a2 a3 a4 a5 a6 a7 a8 bt151.1 bt151.2 bt159.1 (bt159.2 != bt151.2))) else (laws_FnNumbersReflectOfAll.j0 k a0 a1 a2 a3 a4 a5 a6 a7 a8 bt151.1 bt151.2 bt159.1 true))) else (laws_FnNumbersReflectOfAll.j0 k a0 a1 a2 a3 a4 a5 a6 a7 a8 bt151.1 bt151.2 bt159.1 true))) else (laws_FnNumbersReflectOfAll.j0 k a0 a1 a2 a3 a4 a5 a6 a7 a8 bt151.1 bt151.2 bt159.1 true)))))))))
theorem laws_FnNumbersReflectOfAll.mono_l : ∀ k, (∀ y0 y1 y2 y3 y4 y5 y6 y7 y8 y9 y10 y11 y12, LeO (laws_FnNumbersReflectOfAll.j0 k y0 y1 y2 y3 y4 y5 y6 y7 y8 y9 y10 y11 y12) (laws_FnNumbersReflectOfAll.j0 (k + 1) y0 y1 y2 y3 y4 y5 y6 y7 y8 y9 y10 y11 y12)) ∧ (∀ y0 y1 y2 y3 y4 y5 y6 y7, LeO (laws_FnNumbersReflectOfAll.j3 k y0 y1 y2 y3 y4 y5 y6 y7) (laws_FnNumbersReflectOfAll.j3 (k + 1) y0 y1 y2 y3 y4 y5 y6 y7)) ∧ (∀ y0 y1 y2 y3 y4 y5 y6 y7 y8 y9 y10 y11 y12 y13 y14 y15 y16, LeO (laws_FnNumbersReflectOfAll.j4 k y0 y1 y2 y3 y4 y5 y6 y7 y8 y9 y10 y11 y12 y13 y14 y15 y16) (laws_FnNumbersReflectOfAll.j4 (k + 1) y0 y1 y2 y3 y4 y5 y6 y7 y8 y9 y10 y11 y12 y13 y14 y15 y16)) ∧ (∀ y0 y1 y2 y3 y4 y5 y6 y7 y8 y9 y10 y11, LeO (laws_FnNumbersReflectOfAll.j5 k y0 y1 y2 y3 y4 y5 y6 y7 y8 y9 y10 y11) (laws_FnNumbersReflectOfAll.j5 (k + 1) y0 y1 y2 y3 y4 y5 y6 y7 y8 y9 y10 y11)) ∧ (∀ y0 y1 y2 y3 y4 y5 y6, LeO (laws_FnNumbersReflectOfAll.j8 k y0 y1 y2 y3 y4 y5 y6) (laws_FnNumbersReflectOfAll.j8 (k + 1) y0 y1 y2 y3 y4 y5 y6)) ∧ (∀ y0 y1 y2 y3, LeO (laws_FnNumbersReflectOfAll.j9 k y0 y1 y2 y3) (laws_FnNumbersReflectOfAll.j9 (k + 1) y0 y1 y2 y3)) ∧ (∀ y0 y1 y2 y3 y4 y5 y6 y7 y8 y9 y10 y11, LeO (laws_FnNumbersReflectOfAll.j6 k y0 y1 y2 y3 y4 y5 y6 y7 y8 y9 y10 y11) (laws_FnNumbersReflectOfAll.j6 (k + 1) y0 y1 y2 y3 y4 y5 y6 y7 y8 y9 y10 y11)) ∧ (∀ y0 y1 y2 y3 y4 y5 y6 y7 y8 y9 y10 y11, LeO (laws_FnNumbersReflectOfAll.l0 k y0 y1 y2 y3 y4 y5 y6 y7 y8 y9 y10 y11) (laws_FnNumbersReflectOfAll.l0 (k + 1) y0 y1 y2 y3 y4 y5 y6 y7 y8 y9 y10 y11)) ∧ (∀ y0 y1 y2 y3 y4 y5 y6 y7 y8 y9 y10 y11, LeO (laws_FnNumbersReflectOfAll.j1 k y0 y1 y2 y3 y4 y5 y6 y7 y8 y9 y10 y11) (laws_FnNumbersReflectOfAll.j1 (k + 1) y0 y1 y2 y3 y4 y5 y6 y7 y8 y9 y10 y11)) ∧ (∀ y0 y1 y2 y3 y4 y5 y6 y7 y8 y9, LeO (laws_FnNumbersReflectOfAll.j2 k y0 y1 y2 y3 y4 y5 y6 y7 y8 y9) (laws_FnNumbersReflectOfAll.j2 (k + 1) y0 y1 y2 y3 y4 y5 y6 y7 y8 y9))
  | 0 => ⟨fun _ _ _ _ _ _ _ _ _ _ _ _ _ r h => by simp [laws_FnNumbersReflectOfAll.j0] at h, fun _ _ _ _ _ _ _ _ r h => by simp [laws_FnNumbersReflectOfAll.j3] at h, fun _ _ _ _ _ _ _ _ _ _ _ _ _ _ _ _ _ r h => by simp [laws_FnNumbersReflectOfAll.j4] at h, fun _ _ _ _ _ _ _ _ _ _ _ _ r h => by simp [laws_FnNumbersReflectOfAll.j5] at h, fun _ _ _ _ _ _ _ r h => by simp [laws_FnNumbersReflectOfAll.j8] at h, fun _ _ _ _ r h => by simp [laws_FnNumbersReflectOfAll.j9] at h, fun _ _ _ _ _ _ _ _ _ _ _ _ r h => by simp [laws_FnNumbersReflectOfAll.j6] at h, fun _ _ _ _ _ _ _ _ _ _ _ _ r h => by simp [laws_FnNumbersReflectOfAll.l0] at h, fun _ _ _ _ _ _ _ _ _ _ _ _ r h => by simp [laws_FnNumbersReflectOfAll.j1] at h, fun _ _ _ _ _ _ _ _ _ _ r h => by simp [laws_FnNumbersReflectOfAll.j2] at h⟩
  | k + 1 => by
    obtain ⟨ih0, ih1, ih2, ih3, ih4, ih5, ih6, ih7, ih8, ih9⟩ := laws_FnNumbersReflectOfAll.mono_l k
    refine ⟨?_, ?_, ?_, ?_, ?_, ?_, ?_, ?_, ?_, ?_⟩
    · intro y0 y1 y2 y3 y4 y5 y6 y7 y8 y9 y10 y11 y12
      unfold laws_FnNumbersReflectOfAll.j0
      repeat' first
      | (with_reducible exact ih0 _ _ _ _ _ _ _ _ _ _ _ _ _)
      | (with_reducible exact ih1 _ _ _ _ _ _ _ _)
      | (with_reducible exact ih2 _ _ _ _ _ _ _ _ _ _ _ _ _ _ _ _ _)
      | (with_reducible exact ih3 _ _ _ _ _ _ _ _ _ _ _ _)
      | (with_reducible exact ih4 _ _ _ _ _ _ _)
      | (with_reducible exact ih5 _ _ _ _)
      | (with_reducible exact ih6 _ _ _ _ _ _ _ _ _ _ _ _)
      | (with_reducible exact ih7 _ _ _ _ _ _ _ _ _ _ _ _)
      | (with_reducible exact ih8 _ _ _ _ _ _ _ _ _ _ _ _)
      | (with_reducible exact ih9 _ _ _ _ _ _ _ _ _ _)
      | (with_reducible exact impl_ChangedDigit.mono _ _)
      | (with_reducible exact impl_NumberOfReflected.mono _ _)
      | (with_reducible exact impl_RankOfText.mono _ _)
      | (with_reducible exact impl_ReflectedText.mono _ _ _)
      | (with_reducible exact impl_TimesChanged.mono _ _ _ _)
      | (with_reducible exact spec_ChangedDigit.mono _ _)
      | (with_reducible exact spec_NumberOfReflected.mono _ _)
      | (with_reducible exact spec_RankOfText.mono _ _)
      | (with_reducible exact spec_ReflectedText.mono _ _ _)
      | (with_reducible exact spec_TimesChanged.mono _ _ _ _)
      | (with_reducible exact LeO.refl _)
      | (with_reducible exact LeO.none _)
      | (with_reducible refine LeO.ite ?_ ?_)
      | (with_reducible refine LeO.bind ?_ (fun _ => ?_))
      | exact ih0 _ _ _ _ _ _ _ _ _ _ _ _ _
      | exact ih1 _ _ _ _ _ _ _ _
      | exact ih2 _ _ _ _ _ _ _ _ _ _ _ _ _ _ _ _ _
      | exact ih3 _ _ _ _ _ _ _ _ _ _ _ _
      | exact ih4 _ _ _ _ _ _ _
      | exact ih5 _ _ _ _
      | exact ih6 _ _ _ _ _ _ _ _ _ _ _ _
      | exact ih7 _ _ _ _ _ _ _ _ _ _ _ _
      | exact ih8 _ _ _ _ _ _ _ _ _ _ _ _
      | exact ih9 _ _ _ _ _ _ _ _ _ _
      | exact impl_ChangedDigit.mono _ _
      | exact impl_NumberOfReflected.mono _ _
      | exact impl_RankOfText.mono _ _
      | exact impl_ReflectedText.mono _ _ _
      | exact impl_TimesChanged.mono _ _ _ _
      | exact spec_ChangedDigit.mono _ _
      | exact spec_NumberOfReflected.mono _ _
      | exact spec_RankOfText.mono _ _
      | exact spec_ReflectedText.mono _ _ _
      | exact spec_TimesChanged.mono _ _ _ _
      | exact LeO.none _
      | refine LeO.ite ?_ ?_
      | refine LeO.bind ?_ (fun _ => ?_)
    · intro y0 y1 y2 y3 y4 y5 y6 y7
      unfold laws_FnNumbersReflectOfAll.j3
      repeat' first
      | (with_reducible exact ih0 _ _ _ _ _ _ _ _ _ _ _ _ _)
      | (with_reducible exact ih1 _ _ _ _ _ _ _ _)
      | (with_reducible exact ih2 _ _ _ _ _ _ _ _ _ _ _ _ _ _ _ _ _)
      | (with_reducible exact ih3 _ _ _ _ _ _ _ _ _ _ _ _)
      | (with_reducible exact ih4 _ _ _ _ _ _ _)
      | (with_reducible exact ih5 _ _ _ _)
      | (with_reducible exact ih6 _ _ _ _ _ _ _ _ _ _ _ _)
      | (with_reducible exact ih7 _ _ _ _ _ _ _ _ _ _ _ _)
      | (with_reducible exact ih8 _ _ _ _ _ _ _ _ _ _ _ _)
      | (with_reducible exact ih9 _ _ _ _ _ _ _ _ _ _)
      | (with_reducible exact impl_ChangedDigit.mono _ _)
      | (with_reducible exact impl_NumberOfReflected.mono _ _)
      | (with_reducible exact impl_RankOfText.mono _ _)
      | (with_reducible exact impl_ReflectedText.mono _ _ _)
      | (with_reducible exact impl_TimesChanged.mono _ _ _ _)
      | (with_reducible exact spec_ChangedDigit.mono _ _)
      | (with_reducible exact spec_NumberOfReflected.mono _ _)
      | (with_reducible exact spec_RankOfText.mono _ _)
      | (with_reducible exact spec_ReflectedText.mono _ _ _)
      | (with_reducible exact spec_TimesChanged.mono _ _ _ _)
      | (with_reducible exact LeO.refl _)
      | (with_reducible exact LeO.none _)
      | (with_reducible refine LeO.ite ?_ ?_)
      | (with_reducible refine LeO.bind ?_ (fun _ => ?_))
      | exact ih0 _ _ _ _ _ _ _ _ _ _ _ _ _
      | exact ih1 _ _ _ _ _ _ _ _
      | exact ih2 _ _ _ _ _ _ _ _ _ _ _ _ _ _ _ _ _
      | exact ih3 _ _ _ _ _ _ _ _ _ _ _ _
      | exact ih4 _ _ _ _ _ _ _
      | exact ih5 _ _ _ _
      | exact ih6 _ _ _ _ _ _ _ _ _ _ _ _
      | exact ih7 _ _ _ _ _ _ _ _ _ _ _ _
      | exact ih8 _ _ _ _ _ _ _ _ _ _ _ _
      | exact ih9 _ _ _ _ _ _ _ _ _ _
      | exact impl_ChangedDigit.mono _ _
      | exact impl_NumberOfReflected.mono _ _
      | exact impl_RankOfText.mono _ _
      | exact impl_ReflectedText.mono _ _ _
      | exact impl_TimesChanged.mono _ _ _ _
      | exact spec_ChangedDigit.mono _ _
      | exact spec_NumberOfReflected.mono _ _
      | exact spec_RankOfText.mono _ _
      | exact spec_ReflectedText.mono _ _ _
      | exact spec_TimesChanged.mono _ _ _ _
      | exact LeO.none _
      | refine LeO.ite ?_ ?_
      | refine LeO.bind ?_ (fun _ => ?_)
    · intro y0 y1 y2 y3 y4 y5 y6 y7 y8 y9 y10 y11 y12 y13 y14 y15 y16
      unfold laws_FnNumbersReflectOfAll.j4
      repeat' first
      | (with_reducible exact ih0 _ _ _ _ _ _ _ _ _ _ _ _ _)
      | (with_reducible exact ih1 _ _ _ _ _ _ _ _)
      | (with_reducible exact ih2 _ _ _ _ _ _ _ _ _ _ _ _ _ _ _ _ _)
      | (with_reducible exact ih3 _ _ _ _ _ _ _ _ _ _ _ _)
      | (with_reducible exact ih4 _ _ _ _ _ _ _)
      | (with_reducible exact ih5 _ _ _ _)
      | (with_reducible exact ih6 _ _ _ _ _ _ _ _ _ _ _ _)
      | (with_reducible exact ih7 _ _ _ _ _ _ _ _ _ _ _ _)
      | (with_reducible exact ih8 _ _ _ _ _ _ _ _ _ _ _ _)
      | (with_reducible exact ih9 _ _ _ _ _ _ _ _ _ _)
      | (with_reducible exact impl_ChangedDigit.mono _ _)
      | (with_reducible exact impl_NumberOfReflected.mono _ _)
      | (with_reducible exact impl_RankOfText.mono _ _)
      | (with_reducible exact impl_ReflectedText.mono _ _ _)
      | (with_reducible exact impl_TimesChanged.mono _ _ _ _)
      | (with_reducible exact spec_ChangedDigit.mono _ _)
      | (with_reducible exact spec_NumberOfReflected.mono _ _)
      | (with_reducible exact spec_RankOfText.mono _ _)
      | (with_reducible exact spec_ReflectedText.mono _ _ _)
      | (with_reducible exact spec_TimesChanged.mono _ _ _ _)
      | (with_reducible exact LeO.refl _)
      | (with_reducible exact LeO.none _)
      | (with_reducible refine LeO.ite ?_ ?_)
      | (with_reducible refine LeO.bind ?_ (fun _ => ?_))
      | exact ih0 _ _ _ _ _ _ _ _ _ _ _ _ _
      | exact ih1 _ _ _ _ _ _ _ _
      | exact ih2 _ _ _ _ _ _ _ _ _ _ _ _ _ _ _ _ _
      | exact ih3 _ _ _ _ _ _ _ _ _ _ _ _
      | exact ih4 _ _ _ _ _ _ _
      | exact ih5 _ _ _ _
      | exact ih6 _ _ _ _ _ _ _ _ _ _ _ _
      | exact ih7 _ _ _ _ _ _ _ _ _ _ _ _
      | exact ih8 _ _ _ _ _ _ _ _ _ _ _ _
      | exact ih9 _ _ _ _ _ _ _ _ _ _
      | exact impl_ChangedDigit.mono _ _
      | exact impl_NumberOfReflected.mono _ _
      | exact impl_RankOfText.mono _ _
      | exact impl_ReflectedText.mono _ _ _
      | exact impl_TimesChanged.mono _ _ _ _
      | exact spec_ChangedDigit.mono _ _
      | exact spec_NumberOfReflected.mono _ _
      | exact spec_RankOfText.mono _ _
      | exact spec_ReflectedText.mono _ _ _
      | exact spec_TimesChanged.mono _ _ _ _
      | exact LeO.none _
      | refine LeO.ite ?_ ?_
      | refine LeO.bind ?_ (fun _ => ?_)
    · intro y0 y1 y2 y3 y4 y5 y6 y7 y8 y9 y10 y11
      unfold laws_FnNumbersReflectOfAll.j5
      repeat' first
      | (with_reducible exact ih0 _ _ _ _ _ _ _ _ _ _ _ _ _)
      | (with_reducible exact ih1 _ _ _ _ _ _ _ _)
      | (with_reducible exact ih2 _ _ _ _ _ _ _ _ _ _ _ _ _ _ _ _ _)
      | (with_reducible exact ih3 _ _ _ _ _ _ _ _ _ _ _ _)
      | (with_reducible exact ih4 _ _ _ _ _ _ _)
      | (with_reducible exact ih5 _ _ _ _)
      | (with_reducible exact ih6 _ _ _ _ _ _ _ _ _ _ _ _)
      | (with_reducible exact ih7 _ _ _ _ _ _ _ _ _ _ _ _)
      | (with_reducible exact ih8 _ _ _ _ _ _ _ _ _ _ _ _)
      | (with_reducible exact ih9 _ _ _ _ _ _ _ _ _ _)
      | (with_reducible exact impl_ChangedDigit.mono _ _)
      | (with_reducible exact impl_NumberOfReflected.mono _ _)
      | (with_reducible exact impl_RankOfText.mono _ _)
      | (with_reducible exact impl_ReflectedText.mono _ _ _)
      | (with_reducible exact impl_TimesChanged.mono _ _ _ _)
      | (with_reducible exact spec_ChangedDigit.mono _ _)
      | (with_reducible exact spec_NumberOfReflected.mono _ _)
      | (with_reducible exact spec_RankOfText.mono _ _)
      | (with_reducible exact spec_ReflectedText.mono _ _ _)
      | (with_reducible exact spec_TimesChanged.mono _ _ _ _)
      | (with_reducible exact LeO.refl _)
      | (with_reducible exact LeO.none _)
      | (with_reducible refine LeO.ite ?_ ?_)
      | (with_reducible refine LeO.bind ?_ (fun _ => ?_))
      | exact ih0 _ _ _ _ _ _ _ _ _ _ _ _ _
      | exact ih1 _ _ _ _ _ _ _ _
      | exact ih2 _ _ _ _ _ _ _ _ _ _ _ _ _ _ _ _ _
      | exact ih3 _ _ _ _ _ _ _ _ _ _ _ _
      | exact ih4 _ _ _ _ _ _ _
      | exact ih5 _ _ _ _
      | exact ih6 _ _ _ _ _ _ _ _ _ _ _ _
      | exact ih7 _ _ _ _ _ _ _ _ _ _ _ _
      | exact ih8 _ _ _ _ _ _ _ _ _ _ _ _
      | exact ih9 _ _ _ _ _ _ _ _ _ _
      | exact impl_ChangedDigit.mono _ _
      | exact impl_NumberOfReflected.mono _ _
      | exact impl_RankOfText.mono _ _
      | exact impl_ReflectedText.mono _ _ _
      | exact impl_TimesChanged.mono _ _ _ _
      | exact spec_ChangedDigit.mono _ _
      | exact spec_NumberOfReflected.mono _ _
      | exact spec_RankOfText.mono _ _
      | exact spec_ReflectedText.mono _ _ _
      | exact spec_TimesChanged.mono _ _ _ _
      | exact LeO.none _
      | refine LeO.ite ?_ ?_
      | refine LeO.bind ?_ (fun _ => ?_)
    · intro y0 y1 y2 y3 y4 y5 y6
      unfold laws_FnNumbersReflectOfAll.j8
      repeat' first
      | (with_reducible exact ih0 _ _ _ _ _ _ _ _ _ _ _ _ _)
      | (with_reducible exact ih1 _ _ _ _ _ _ _ _)
      | (with_reducible exact ih2 _ _ _ _ _ _ _ _ _ _ _ _ _ _ _ _ _)
      | (with_reducible exact ih3 _ _ _ _ _ _ _ _ _ _ _ _)
      | (with_reducible exact ih4 _ _ _ _ _ _ _)
      | (with_reducible exact ih5 _ _ _ _)
      | (with_reducible exact ih6 _ _ _ _ _ _ _ _ _ _ _ _)
      | (with_reducible exact ih7 _ _ _ _ _ _ _ _ _ _ _ _)
      | (with_reducible exact ih8 _ _ _ _ _ _ _ _ _ _ _ _)
      | (with_reducible exact ih9 _ _ _ _ _ _ _ _ _ _)
      | (with_reducible exact impl_ChangedDigit.mono _ _)
      | (with_reducible exact impl_NumberOfReflected.mono _ _)
      | (with_reducible exact impl_RankOfText.mono _ _)
      | (with_reducible exact impl_ReflectedText.mono _ _ _)
      | (with_reducible exact impl_TimesChanged.mono _ _ _ _)
      | (with_reducible exact spec_ChangedDigit.mono _ _)
      | (with_reducible exact spec_NumberOfReflected.mono _ _)
      | (with_reducible exact spec_RankOfText.mono _ _)
      | (with_reducible exact spec_ReflectedText.mono _ _ _)
      | (with_reducible exact spec_TimesChanged.mono _ _ _ _)
      | (with_reducible exact LeO.refl _)
      | (with_reducible exact LeO.none _)
      | (with_reducible refine LeO.ite ?_ ?_)
      | (with_reducible refine LeO.bind ?_ (fun _ => ?_))
      | exact ih0 _ _ _ _ _ _ _ _ _ _ _ _ _
      | exact ih1 _ _ _ _ _ _ _ _
      | exact ih2 _ _ _ _ _ _ _ _ _ _ _ _ _ _ _ _ _
      | exact ih3 _ _ _ _ _ _ _ _ _ _ _ _
      | exact ih4 _ _ _ _ _ _ _
      | exact ih5 _ _ _ _
      | exact ih6 _ _ _ _ _ _ _ _ _ _ _ _
      | exact ih7 _ _ _ _ _ _ _ _ _ _ _ _
      | exact ih8 _ _ _ _ _ _ _ _ _ _ _ _
      | exact ih9 _ _ _ _ _ _ _ _ _ _
      | exact impl_ChangedDigit.mono _ _
      | exact impl_NumberOfReflected.mono _ _
      | exact impl_RankOfText.mono _ _
      | exact impl_ReflectedText.mono _ _ _
      | exact impl_TimesChanged.mono _ _ _ _
      | exact spec_ChangedDigit.mono _ _
      | exact spec_NumberOfReflected.mono _ _
      | exact spec_RankOfText.mono _ _
      | exact spec_ReflectedText.mono _ _ _
      | exact spec_TimesChanged.mono _ _ _ _
      | exact LeO.none _
      | refine LeO.ite ?_ ?_
      | refine LeO.bind ?_ (fun _ => ?_)
    · intro y0 y1 y2 y3
      unfold laws_FnNumbersReflectOfAll.j9
      repeat' first
      | (with_reducible exact ih0 _ _ _ _ _ _ _ _ _ _ _ _ _)
      | (with_reducible exact ih1 _ _ _ _ _ _ _ _)
      | (with_reducible exact ih2 _ _ _ _ _ _ _ _ _ _ _ _ _ _ _ _ _)
      | (with_reducible exact ih3 _ _ _ _ _ _ _ _ _ _ _ _)
      | (with_reducible exact ih4 _ _ _ _ _ _ _)
      | (with_reducible exact ih5 _ _ _ _)
      | (with_reducible exact ih6 _ _ _ _ _ _ _ _ _ _ _ _)
      | (with_reducible exact ih7 _ _ _ _ _ _ _ _ _ _ _ _)
      | (with_reducible exact ih8 _ _ _ _ _ _ _ _ _ _ _ _)
      | (with_reducible exact ih9 _ _ _ _ _ _ _ _ _ _)
      | (with_reducible exact impl_ChangedDigit.mono _ _)
      | (with_reducible exact impl_NumberOfReflected.mono _ _)
      | (with_reducible exact impl_RankOfText.mono _ _)
      | (with_reducible exact impl_ReflectedText.mono _ _ _)
      | (with_reducible exact impl_TimesChanged.mono _ _ _ _)
      | (with_reducible exact spec_ChangedDigit.mono _ _)
      | (with_reducible exact spec_NumberOfReflected.mono _ _)
      | (with_reducible exact spec_RankOfText.mono _ _)
      | (with_reducible exact spec_ReflectedText.mono _ _ _)
      | (with_reducible exact spec_TimesChanged.mono _ _ _ _)
      | (with_reducible exact LeO.refl _)
      | (with_reducible exact LeO.none _)
      | (with_reducible refine LeO.ite ?_ ?_)
      | (with_reducible refine LeO.bind ?_ (fun _ => ?_))
      | exact ih0 _ _ _ _ _ _ _ _ _ _ _ _ _
      | exact ih1 _ _ _ _ _ _ _ _
      | exact ih2 _ _ _ _ _ _ _ _ _ _ _ _ _ _ _ _ _
      | exact ih3 _ _ _ _ _ _ _ _ _ _ _ _
      | exact ih4 _ _ _ _ _ _ _
      | exact ih5 _ _ _ _
      | exact ih6 _ _ _ _ _ _ _ _ _ _ _ _
      | exact ih7 _ _ _ _ _ _ _ _ _ _ _ _
      | exact ih8 _ _ _ _ _ _ _ _ _ _ _ _
      | exact ih9 _ _ _ _ _ _ _ _ _ _
      | exact impl_ChangedDigit.mono _ _
      | exact impl_NumberOfReflected.mono _ _
      | exact impl_RankOfText.mono _ _
      | exact impl_ReflectedText.mono _ _ _
      | exact impl_TimesChanged.mono _ _ _ _
      | exact spec_ChangedDigit.mono _ _
      | exact spec_NumberOfReflected.mono _ _
      | exact spec_RankOfText.mono _ _
      | exact spec_ReflectedText.mono _ _ _
      | exact spec_TimesChanged.mono _ _ _ _
      | exact LeO.none _
      | refine LeO.ite ?_ ?_
      | refine LeO.bind ?_ (fun _ => ?_)
    · intro y0 y1 y2 y3 y4 y5 y6 y7 y8 y9 y10 y11
      unfold laws_FnNumbersReflectOfAll.j6
      repeat' first
      | (with_reducible exact ih0 _ _ _ _ _ _ _ _ _ _ _ _ _)
      | (with_reducible exact ih1 _ _ _ _ _ _ _ _)
      | (with_reducible exact ih2 _ _ _ _ _ _ _ _ _ _ _ _ _ _ _ _ _)
      | (with_reducible exact ih3 _ _ _ _ _ _ _ _ _ _ _ _)
      | (with_reducible exact ih4 _ _ _ _ _ _ _)
      | (with_reducible exact ih5 _ _ _ _)
      | (with_reducible exact ih6 _ _ _ _ _ _ _ _ _ _ _ _)
      | (with_reducible exact ih7 _ _ _ _ _ _ _ _ _ _ _ _)
      | (with_reducible exact ih8 _ _ _ _ _ _ _ _ _ _ _ _)
      | (with_reducible exact ih9 _ _ _ _ _ _ _ _ _ _)
      | (with_reducible exact impl_ChangedDigit.mono _ _)
      | (with_reducible exact impl_NumberOfReflected.mono _ _)
      | (with_reducible exact impl_RankOfText.mono _ _)
      | (with_reducible exact impl_ReflectedText.mono _ _ _)
      | (with_reducible exact impl_TimesChanged.mono _ _ _ _)
      | (with_reducible exact spec_ChangedDigit.mono _ _)
      | (with_reducible exact spec_NumberOfReflected.mono _ _)
      | (with_reducible exact spec_RankOfText.mono _ _)
      | (with_reducible exact spec_ReflectedText.mono _ _ _)
      | (with_reducible exact spec_TimesChanged.mono _ _ _ _)
      | (with_reducible exact LeO.refl _)
      | (with_reducible exact LeO.none _)
      | (with_reducible refine LeO.ite ?_ ?_)
      | (with_reducible refine LeO.bind ?_ (fun _ => ?_))
      | exact ih0 _ _ _ _ _ _ _ _ _ _ _ _ _
      | exact ih1 _ _ _ _ _ _ _ _
      | exact ih2 _ _ _ _ _ _ _ _ _ _ _ _ _ _ _ _ _
      | exact ih3 _ _ _ _ _ _ _ _ _ _ _ _
      | exact ih4 _ _ _ _ _ _ _
      | exact ih5 _ _ _ _
      | exact ih6 _ _ _ _ _ _ _ _ _ _ _ _
      | exact ih7 _ _ _ _ _ _ _ _ _ _ _ _
      | exact ih8 _ _ _ _ _ _ _ _ _ _ _ _
      | exact ih9 _ _ _ _ _ _ _ _ _ _
      | exact impl_ChangedDigit.mono _ _
      | exact impl_NumberOfReflected.mono _ _
      | exact impl_RankOfText.mono _ _
      | exact impl_ReflectedText.mono _ _ _
      | exact impl_TimesChanged.mono _ _ _ _
      | exact spec_ChangedDigit.mono _ _
      | exact spec_NumberOfReflected.mono _ _
      | exact spec_RankOfText.mono _ _
      | exact spec_ReflectedText.mono _ _ _
      | exact spec_TimesChanged.mono _ _ _ _
      | exact LeO.none _
      | refine LeO.ite ?_ ?_
      | refine LeO.bind ?_ (fun _ => ?_)
    · intro y0 y1 y2 y3 y4 y5 y6 y7 y8 y9 y10 y11
      unfold laws_FnNumbersReflectOfAll.l0
      repeat' first
      | (with_reducible exact ih0 _ _ _ _ _ _ _ _ _ _ _ _ _)
      | (with_reducible exact ih1 _ _ _ _ _ _ _ _)
      | (with_reducible exact ih2 _ _ _ _ _ _ _ _ _ _ _ _ _ _ _ _ _)
      | (with_reducible exact ih3 _ _ _ _ _ _ _ _ _ _ _ _)
      | (with_reducible exact ih4 _ _ _ _ _ _ _)
      | (with_reducible exact ih5 _ _ _ _)
      | (with_reducible exact ih6 _ _ _ _ _ _ _ _ _ _ _ _)
      | (with_reducible exact ih7 _ _ _ _ _ _ _ _ _ _ _ _)
      | (with_reducible exact ih8 _ _ _ _ _ _ _ _ _ _ _ _)
      | (with_reducible exact ih9 _ _ _ _ _ _ _ _ _ _)
      | (with_reducible exact impl_ChangedDigit.mono _ _)
      | (with_reducible exact impl_NumberOfReflected.mono _ _)
      | (with_reducible exact impl_RankOfText.mono _ _)
      | (with_reducible exact impl_ReflectedText.mono _ _ _)
      | (with_reducible exact impl_TimesChanged.mono _ _ _ _)
      | (with_reducible exact spec_ChangedDigit.mono _ _)
      | (with_reducible exact spec_NumberOfReflected.mono _ _)
      | (with_reducible exact spec_RankOfText.mono _ _)
      | (with_reducible exact spec_ReflectedText.mono _ _ _)
      | (with_reducible exact spec_TimesChanged.mono _ _ _ _)
      | (with_reducible exact LeO.refl _)
      | (with_reducible exact LeO.none _)
      | (with_reducible refine LeO.ite ?_ ?_)
      | (with_reducible refine LeO.bind ?_ (fun _ => ?_))
      | exact ih0 _ _ _ _ _ _ _ _ _ _ _ _ _
      | exact ih1 _ _ _ _ _ _ _ _
      | exact ih2 _ _ _ _ _ _ _ _ _ _ _ _ _ _ _ _ _
      | exact ih3 _ _ _ _ _ _ _ _ _ _ _ _
      | exact ih4 _ _ _ _ _ _ _
      | exact ih5 _ _ _ _
      | exact ih6 _ _ _ _ _ _ _ _ _ _ _ _
      | exact ih7 _ _ _ _ _ _ _ _ _ _ _ _
      | exact ih8 _ _ _ _ _ _ _ _ _ _ _ _
      | exact ih9 _ _ _ _ _ _ _ _ _ _
      | exact impl_ChangedDigit.mono _ _
      | exact impl_NumberOfReflected.mono _ _
      | exact impl_RankOfText.mono _ _
      | exact impl_ReflectedText.mono _ _ _
      | exact impl_TimesChanged.mono _ _ _ _
      | exact spec_ChangedDigit.mono _ _
      | exact spec_NumberOfReflected.mono _ _
      | exact spec_RankOfText.mono _ _
      | exact spec_ReflectedText.mono _ _ _
      | exact spec_TimesChanged.mono _ _ _ _
      | exact LeO.none _
      | refine LeO.ite ?_ ?_
      | refine LeO.bind ?_ (fun _ => ?_)
    · intro y0 y1 y2 y3 y4 y5 y6 y7 y8 y9 y10 y11
      unfold laws_FnNumbersReflectOfAll.j1
      repeat' first
      | (with_reducible exact ih0 _ _ _ _ _ _ _ _ _ _ _ _ _)
      | (with_reducible exact ih1 _ _ _ _ _ _ _ _)
      | (with_reducible exact ih2 _ _ _ _ _ _ _ _ _ _ _ _ _ _ _ _ _)
      | (with_reducible exact ih3 _ _ _ _ _ _ _ _ _ _ _ _)
      | (with_reducible exact ih4 _ _ _ _ _ _ _)
      | (with_reducible exact ih5 _ _ _ _)
      | (with_reducible exact ih6 _ _ _ _ _ _ _ _ _ _ _ _)
      | (with_reducible exact ih7 _ _ _ _ _ _ _ _ _ _ _ _)
      | (with_reducible exact ih8 _ _ _ _ _ _ _ _ _ _ _ _)
      | (with_reducible exact ih9 _ _ _ _ _ _ _ _ _ _)
      | (with_reducible exact impl_ChangedDigit.mono _ _)
      | (with_reducible exact impl_NumberOfReflected.mono _ _)
      | (with_reducible exact impl_RankOfText.mono _ _)
      | (with_reducible exact impl_ReflectedText.mono _ _ _)
      | (with_reducible exact impl_TimesChanged.mono _ _ _ _)
      | (with_reducible exact spec_ChangedDigit.mono _ _)
      | (with_reducible exact spec_NumberOfReflected.mono _ _)
      | (with_reducible exact spec_RankOfText.mono _ _)
      | (with_reducible exact spec_ReflectedText.mono _ _ _)
      | (with_reducible exact spec_TimesChanged.mono _ _ _ _)
      | (with_reducible exact LeO.refl _)
      | (with_reducible exact LeO.none _)
      | (with_reducible refine LeO.ite ?_ ?_)
      | (with_reducible refine LeO.bind ?_ (fun _ => ?_))
      | exact ih0 _ _ _ _ _ _ _ _ _ _ _ _ _
      | exact ih1 _ _ _ _ _ _ _ _
      | exact ih2 _ _ _ _ _ _ _ _ _ _ _ _ _ _ _ _ _
      | exact ih3 _ _ _ _ _ _ _ _ _ _ _ _
      | exact ih4 _ _ _ _ _ _ _
      | exact ih5 _ _ _ _
      | exact ih6 _ _ _ _ _ _ _ _ _ _ _ _
      | exact ih7 _ _ _ _ _ _ _ _ _ _ _ _
      | exact ih8 _ _ _ _ _ _ _ _ _ _ _ _
      | exact ih9 _ _ _ _ _ _ _ _ _ _
      | exact impl_ChangedDigit.mono _ _
      | exact impl_NumberOfReflected.mono _ _
      | exact impl_RankOfText.mono _ _
      | exact impl_ReflectedText.mono _ _ _
      | exact impl_TimesChanged.mono _ _ _ _
      | exact spec_ChangedDigit.mono _ _
      | exact spec_NumberOfReflected.mono _ _
      | exact spec_RankOfText.mono _ _
      | exact spec_ReflectedText.mono _ _ _
      | exact spec_TimesChanged.mono _ _ _ _
      | exact LeO.none _
      | refine LeO.ite ?_ ?_
      | refine LeO.bind ?_ (fun _ => ?_)
    · intro y0 y1 y2 y3 y4 y5 y6 y7 y8 y9
      unfold laws_FnNumbersReflectOfAll.j2
      repeat' first
      | (with_reducible exact ih0 _ _ _ _ _ _ _ _ _ _ _ _ _)
      | (with_reducible exact ih1 _ _ _ _ _ _ _ _)
      | (with_reducible exact ih2 _ _ _ _ _ _ _ _ _ _ _ _ _ _ _ _ _)
      | (with_reducible exact ih3 _ _ _ _ _ _ _ _ _ _ _ _)
      | (with_reducible exact ih4 _ _ _ _ _ _ _)
      | (with_reducible exact ih5 _ _ _ _)
      | (with_reducible exact ih6 _ _ _ _ _ _ _ _ _ _ _ _)
      | (with_reducible exact ih7 _ _ _ _ _ _ _ _ _ _ _ _)
      | (with_reducible exact ih8 _ _ _ _ _ _ _ _ _ _ _ _)
      | (with_reducible exact ih9 _ _ _ _ _ _ _ _ _ _)
      | (with_reducible exact impl_ChangedDigit.mono _ _)
      | (with_reducible exact impl_NumberOfReflected.mono _ _)
      | (with_reducible exact impl_RankOfText.mono _ _)
      | (with_reducible exact impl_ReflectedText.mono _ _ _)
      | (with_reducible exact impl_TimesChanged.mono _ _ _ _)
      | (with_reducible exact spec_ChangedDigit.mono _ _)
      | (with_reducible exact spec_NumberOfReflected.mono _ _)
      | (with_reducible exact spec_RankOfText.mono _ _)
      | (with_reducible exact spec_ReflectedText.mono _ _ _)
      | (with_reducible exact spec_TimesChanged.mono _ _ _ _)
      | (with_reducible exact LeO.refl _)
      | (with_reducible exact LeO.none _)
      | (with_reducible refine LeO.ite ?_ ?_)
      | (with_reducible refine LeO.bind ?_ (fun _ => ?_))
      | exact ih0 _ _ _ _ _ _ _ _ _ _ _ _ _
      | exact ih1 _ _ _ _ _ _ _ _
      | exact ih2 _ _ _ _ _ _ _ _ _ _ _ _ _ _ _ _ _
      | exact ih3 _ _ _ _ _ _ _ _ _ _ _ _
      | exact ih4 _ _ _ _ _ _ _
      | exact ih5 _ _ _ _
      | exact ih6 _ _ _ _ _ _ _ _ _ _ _ _
      | exact ih7 _ _ _ _ _ _ _ _ _ _ _ _
      | exact ih8 _ _ _ _ _ _ _ _ _ _ _ _
      | exact ih9 _ _ _ _ _ _ _ _ _ _
      | exact impl_ChangedDigit.mono _ _
      | exact impl_NumberOfReflected.mono _ _
      | exact impl_RankOfText.mono _ _
      | exact impl_ReflectedText.mono _ _ _
      | exact impl_TimesChanged.mono _ _ _ _
      | exact spec_ChangedDigit.mono _ _
      | exact spec_NumberOfReflected.mono _ _
      | exact spec_RankOfText.mono _ _
      | exact spec_ReflectedText.mono _ _ _
      | exact spec_TimesChanged.mono _ _ _ _
      | exact LeO.none _
      | refine LeO.ite ?_ ?_
      | refine LeO.bind ?_ (fun _ => ?_)
theorem laws_FnNumbersReflectOfAll.mono : ∀ a0 a1 a2 a3 a4 a5 a6 a7 a8 k, LeO (laws_FnNumbersReflectOfAll.f k a0 a1 a2 a3 a4 a5 a6 a7 a8) (laws_FnNumbersReflectOfAll.f (k + 1) a0 a1 a2 a3 a4 a5 a6 a7 a8) := by
  intro a0 a1 a2 a3 a4 a5 a6 a7 a8 k
  obtain ⟨ih0, ih1, ih2, ih3, ih4, ih5, ih6, ih7, ih8, ih9⟩ := laws_FnNumbersReflectOfAll.mono_l k
  unfold laws_FnNumbersReflectOfAll.f
  repeat' first
      | (with_reducible exact ih0 _ _ _ _ _ _ _ _ _ _ _ _ _)
      | (with_reducible exact ih1 _ _ _ _ _ _ _ _)
      | (with_reducible exact ih2 _ _ _ _ _ _ _ _ _ _ _ _ _ _ _ _ _)
      | (with_reducible exact ih3 _ _ _ _ _ _ _ _ _ _ _ _)
      | (with_reducible exact ih4 _ _ _ _ _ _ _)
      | (with_reducible exact ih5 _ _ _ _)
      | (with_reducible exact ih6 _ _ _ _ _ _ _ _ _ _ _ _)
      | (with_reducible exact ih7 _ _ _ _ _ _ _ _ _ _ _ _)
      | (with_reducible exact ih8 _ _ _ _ _ _ _ _ _ _ _ _)
      | (with_reducible exact ih9 _ _ _ _ _ _ _ _ _ _)
      | (with_reducible exact impl_ChangedDigit.mono _ _)
      | (with_reducible exact impl_NumberOfReflected.mono _ _)
      | (with_reducible exact impl_RankOfText.mono _ _)
      | (with_reducible exact impl_ReflectedText.mono _ _ _)
      | (with_reducible exact impl_TimesChanged.mono _ _ _ _)
      | (with_reducible exact spec_ChangedDigit.mono _ _)
      | (with_reducible exact spec_NumberOfReflected.mono _ _)
      | (with_reducible exact spec_RankOfText.mono _ _)
      | (with_reducible exact spec_ReflectedText.mono _ _ _)
      | (with_reducible exact spec_TimesChanged.mono _ _ _ _)
      | (with_reducible exact LeO.refl _)
      | (with_reducible exact LeO.none _)
      | (with_reducible refine LeO.ite ?_ ?_)
      | (with_reducible refine LeO.bind ?_ (fun _ => ?_))
      | exact ih0 _ _ _ _ _ _ _ _ _ _ _ _ _
      | exact ih1 _ _ _ _ _ _ _ _
      | exact ih2 _ _ _ _ _ _ _ _ _ _ _ _ _ _ _ _ _
      | exact ih3 _ _ _ _ _ _ _ _ _ _ _ _
      | exact ih4 _ _ _ _ _ _ _
      | exact ih5 _ _ _ _
      | exact ih6 _ _ _ _ _ _ _ _ _ _ _ _
      | exact ih7 _ _ _ _ _ _ _ _ _ _ _ _
      | exact ih8 _ _ _ _ _ _ _ _ _ _ _ _
      | exact ih9 _ _ _ _ _ _ _ _ _ _
      | exact impl_ChangedDigit.mono _ _
      | exact impl_NumberOfReflected.mono _ _
      | exact impl_RankOfText.mono _ _
      | exact impl_ReflectedText.mono _ _ _
      | exact impl_TimesChanged.mono _ _ _ _
      | exact spec_ChangedDigit.mono _ _
      | exact spec_NumberOfReflected.mono _ _
      | exact spec_RankOfText.mono _ _
      | exact spec_ReflectedText.mono _ _ _
      | exact spec_TimesChanged.mono _ _ _ _
      | exact LeO.none _
      | refine LeO.ite ?_ ?_
      | refine LeO.bind ?_ (fun _ => ?_)
def laws_FnNumbersReflectOfAll.Pure : Prop := ∀ (a0 : Int) (a1 : Int) (a2 : Int) (a3 : Int) (a4 : Int) (a5 : Int) (a6 : Int) (a7 : Int) (a8 : ByteArray), (Lit.int .i64 a0).wf = true → (Lit.int .i64 a1).wf = true → (Lit.int .i64 a2).wf = true → (Lit.int .i64 a3).wf = true → (Lit.int .i64 a4).wf = true → (Lit.int .i64 a5).wf = true → (Lit.int .i64 a6).wf = true → (Lit.int .i64 a7).wf = true → a8.size ≤ 140737488351232 → ∃ k, laws_FnNumbersReflectOfAll.f k a0 a1 a2 a3 a4 a5 a6 a7 a8 = some true
/-- what is left open, told apart from what holds -/
structure Hole (P : Prop) : Prop where mk :: (out : P)
abbrev o_ : Bool := false
abbrev i_ : Bool := true
/-- a frame in which the marked slots hold whatever f says -/
def maskF : List Bool → List Value → (Nat → Value) → Nat → List Value
  | [], l, _, _ => l
  | _ :: _, [], _, _ => []
  | true :: bs, _ :: l, f, i => f i :: maskF bs l f (i + 1)
  | false :: bs, x :: l, f, i => x :: maskF bs l f (i + 1)
/-- the frame l, its marked slots out of l' -/
def mergeF : List Bool → List Value → List Value → List Value
  | [], l, _ => l
  | _ :: _, [], _ => []
  | _ :: _, x :: l, [] => x :: l
  | true :: bs, _ :: l, y :: l' => y :: mergeF bs l l'
  | false :: bs, x :: l, _ :: l' => x :: mergeF bs l l'
def slotF : List Value → Nat → Value
  | [], _ => .bool false
  | x :: _, 0 => x
  | _ :: l, n + 1 => slotF l n
theorem mask_merge : ∀ (bs : List Bool) (l l' : List Value) (f : Nat → Value) (i : Nat), mergeF bs l l' = l' → (∀ j, f (i + j) = slotF l' j) → maskF bs l f i = l'
  | [], l, l', f, i, h, _ => by cases l <;> exact h
  | b :: bs, [], l', f, i, h, _ => by cases b <;> (first | exact h | (simp only [mergeF] at h; rw [← h]; rfl))
  | b :: bs, x :: l, [], f, i, h, _ => by cases b <;> simp [mergeF] at h
  | true :: bs, x :: l, y :: l', f, i, h, hf => by
    simp only [mergeF, List.cons.injEq, true_and] at h
    simp only [maskF]
    rw [mask_merge bs l l' f (i + 1) h (fun j => by rw [show i + 1 + j = i + (j + 1) by omega, hf]; rfl), show f i = y from hf 0]
  | false :: bs, x :: l, y :: l', f, i, h, hf => by
    simp only [mergeF, List.cons.injEq] at h
    simp only [maskF]
    rw [mask_merge bs l l' f (i + 1) h.2 (fun j => by rw [show i + 1 + j = i + (j + 1) by omega, hf]; rfl), h.1]
/-- ways that meet again: the slots that a statement may write are told by one function instead of a letter each -/
theorem wp_cutF {P : Program} {s : Code} {K : Act → World → Prop} {Q' : Exit → Act → World → Prop} {l : List Value} {w : World} (bs : List Bool) (R : (Nat → Value) → World → Prop)
    (rest : ∀ f w', R f w' → K ⟨(maskF bs l f 0).toArray, []⟩ w')
    (first : ∀ (J K' : Act → World → Prop), (∀ l' w', mergeF bs l l' = l' → R (slotF l') w' → J ⟨l'.toArray, []⟩ w') → (∀ a' w', Met J a' w' → K' a' w') → s.wp P (Exit.then K' Q') ⟨l.toArray, []⟩ w) : s.wp P (Exit.then K Q') ⟨l.toArray, []⟩ w := by
  refine wp_cut (fun a' w' => ∃ l', a' = ⟨l'.toArray, []⟩ ∧ mergeF bs l l' = l' ∧ R (slotF l') w') ?_ ?_
  · rintro a' w' ⟨l', rfl, h1, h2⟩
    have := rest (slotF l') w' h2
    rwa [mask_merge bs l l' (slotF l') 0 h1 (fun j => by rw [Nat.zero_add])] at this
  · intro J K' hJ hK
    exact first J K' (fun l' w' h1 h2 => hJ _ _ ⟨l', rfl, h1, h2⟩) hK
end Go.Proofs.YtcejcobbfpbpoaaDoor.A
