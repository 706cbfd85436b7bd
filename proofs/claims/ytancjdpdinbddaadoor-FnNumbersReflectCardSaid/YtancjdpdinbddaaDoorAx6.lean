-- written by a program of this session's over the kit's print (xp.py)
import Derived.Test.YtancjdpdinbddaaDoorAx0
import Derived.Test.YtancjdpdinbddaaDoorAx1
import Derived.Test.YtancjdpdinbddaaDoorAx2
import Derived.Test.YtancjdpdinbddaaDoorAx3
import Derived.Test.YtancjdpdinbddaaDoorAx4
import Derived.Test.YtancjdpdinbddaaDoorAx5
namespace Go.Proofs.YtancjdpdinbddaaDoor.A
open Go.RowKit Go.Proofs.YtancjdpdinbddaaDoorW.PrintWords Go.Proofs.YtancjdpdinbddaaDoorW.PrintLast Go.Proofs.YtancjdpdinbddaaDoorW.PrintMore
attribute [local go_sem] max2_int min2_int max_two min_two max_three min_three max_four min_four   -- for this text's walks alone
set_option linter.unusedVariables false
set_option linter.unusedSimpArgs false

/-! ### laws_FnNumbersReflect: function 3 -/
mutual
def laws_FnNumbersReflect.j0 : Nat → List Int → Int → Int → Bool → Int → Bool → Option (Bool)
  | 0, _, _, _, _, _, _ => none
  | k + 1, x1, x5, x6, x7, x14, x136 => if x136 = true then (some false) else (if x7 = true then ((impl_NumberOfReflected.f k x6).bind fun bt260 => ((impl_PlainSum.f x5 (wrap64 (Int.tdiv x5 2))).bind fun bt262 => (if bt260.2 = true then (if bt260.1 = x5 then (if bt262.2 = true then (laws_FnNumbersReflect.j1 k x1 x5 x6 x14 (bt262.1 != x6)) else (laws_FnNumbersReflect.j1 k x1 x5 x6 x14 true)) else (laws_FnNumbersReflect.j1 k x1 x5 x6 x14 true)) else (if bt262.2 = true then (laws_FnNumbersReflect.j1 k x1 x5 x6 x14 (bt262.1 != x6)) else (laws_FnNumbersReflect.j1 k x1 x5 x6 x14 true))))) else (laws_FnNumbersReflect.j3 k x1))
def laws_FnNumbersReflect.j3 : Nat → List Int → Option (Bool)
  | 0, _ => none
  | k + 1, x1 => (spec_DrawPlainSum.f k x1).bind fun bt270 => ((impl_PlainSum.f bt270.1 bt270.2).bind fun bt272 => ((spec_PlainSum.f bt270.1 bt270.2).bind fun bt274 => ((spec_DrawTimesChanged.f k x1).bind fun bt276 => ((impl_TimesChanged.f k bt276.1 bt276.2.1 bt276.2.2).bind fun bt279 => ((spec_TimesChanged.f k bt276.1 bt276.2.1 bt276.2.2).bind fun bt281 => ((spec_DrawReflectedText.f k x1).bind fun bt283 => ((impl_ReflectedText.f k bt283.1 bt283.2).bind fun bt285 => ((spec_ReflectedText.f k bt283.1 bt283.2).bind fun bt287 => ((spec_DrawRankOfText.f k x1).bind fun t289 => ((impl_RankOfText.f k t289).bind fun bt290 => ((spec_RankOfText.f k t289).bind fun bt292 => (if (bt272.2 != bt274.2) = true then (laws_FnNumbersReflect.j4 k bt270.1 bt270.2 bt272.1 bt272.2 bt276.1 bt276.2.1 bt276.2.2 bt279.1 bt279.2 bt283.1 bt283.2 bt285.1 bt285.2 t289 bt290.1 bt290.2 true) else (if bt272.1 = bt274.1 then (if (bt279.2 != bt281.2) = true then (laws_FnNumbersReflect.j4 k bt270.1 bt270.2 bt272.1 bt272.2 bt276.1 bt276.2.1 bt276.2.2 bt279.1 bt279.2 bt283.1 bt283.2 bt285.1 bt285.2 t289 bt290.1 bt290.2 true) else (if bt279.1 = bt281.1 then (if (bt285.2 != bt287.2) = true then (laws_FnNumbersReflect.j4 k bt270.1 bt270.2 bt272.1 bt272.2 bt276.1 bt276.2.1 bt276.2.2 bt279.1 bt279.2 bt283.1 bt283.2 bt285.1 bt285.2 t289 bt290.1 bt290.2 true) else (if bt285.1.toList = bt287.1.toList then (if (bt290.2 != bt292.2) = true then (laws_FnNumbersReflect.j4 k bt270.1 bt270.2 bt272.1 bt272.2 bt276.1 bt276.2.1 bt276.2.2 bt279.1 bt279.2 bt283.1 bt283.2 bt285.1 bt285.2 t289 bt290.1 bt290.2 true) else (laws_FnNumbersReflect.j4 k bt270.1 bt270.2 bt272.1 bt272.2 bt276.1 bt276.2.1 bt276.2.2 bt279.1 bt279.2 bt283.1 bt283.2 bt285.1 bt285.2 t289 bt290.1 bt290.2 (bt290.1 != bt292.1))) else (laws_FnNumbersReflect.j4 k bt270.1 bt270.2 bt272.1 bt272.2 bt276.1 bt276.2.1 bt276.2.2 bt279.1 bt279.2 bt283.1 bt283.2 bt285.1 bt285.2 t289 bt290.1 bt290.2 true))) else (laws_FnNumbersReflect.j4 k bt270.1 bt270.2 bt272.1 bt272.2 bt276.1 bt276.2.1 bt276.2.2 bt279.1 bt279.2 bt283.1 bt283.2 bt285.1 bt285.2 t289 bt290.1 bt290.2 true))) else (laws_FnNumbersReflect.j4 k bt270.1 bt270.2 bt272.1 bt272.2 bt276.1 bt276.2.1 bt276.2.2 bt279.1 bt279.2 bt283.1 bt283.2 bt285.1 bt285.2 t289 bt290.1 bt290.2 true))))))))))))))
def laws_FnNumbersReflect.j4 : Nat → Int → Int → Int → Bool → Int → Int → Int → Int → Bool → Int → Int → ByteArray → Bool → ByteArray → Int → Bool → Bool → Option (Bool)
  | 0, _, _, _, _, _, _, _, _, _, _, _, _, _, _, _, _, _ => none
  | k + 1, x28, x29, x30, x31, x34, x35, x36, x37, x38, x41, x42, x43, x44, x47, x48, x49, x308 => if x308 = true then (some false) else (if x31 = true then ((impl_PlainSum.f x29 x28).bind fun bt294 => ((impl_PlainSum.f x30 x29).bind fun bt296 => (if bt294.2 = true then (if bt294.1 = x30 then (if bt296.2 = true then (if bt296.1 = x28 then (laws_FnNumbersReflect.j5 k x34 x35 x36 x37 x38 x41 x42 x43 x44 x47 x48 x49) else (some false)) else (laws_FnNumbersReflect.j5 k x34 x35 x36 x37 x38 x41 x42 x43 x44 x47 x48 x49)) else (some false)) else (some false)))) else (laws_FnNumbersReflect.j5 k x34 x35 x36 x37 x38 x41 x42 x43 x44 x47 x48 x49))
def laws_FnNumbersReflect.j5 : Nat → Int → Int → Int → Int → Bool → Int → Int → ByteArray → Bool → ByteArray → Int → Bool → Option (Bool)
  | 0, _, _, _, _, _, _, _, _, _, _, _, _ => none
  | k + 1, x34, x35, x36, x37, x38, x41, x42, x43, x44, x47, x48, x49 => if x38 = true then (if x37 < 0 then (laws_FnNumbersReflect.j6 k x34 x35 x36 x37 x41 x42 x43 x44 x47 x48 x49 true) else (laws_FnNumbersReflect.j6 k x34 x35 x36 x37 x41 x42 x43 x44 x47 x48 x49 (decide ((wrap64 (x35 - x34)) < x37)))) else (laws_FnNumbersReflect.j8 k x41 x42 x43 x44 x47 x48 x49)
def laws_FnNumbersReflect.j8 : Nat → Int → Int → ByteArray → Bool → ByteArray → Int → Bool → Option (Bool)
  | 0, _, _, _, _, _, _, _ => none
  | k + 1, x41, x42, x43, x44, x47, x48, x49 => if x44 = true then ((impl_RankOfText.f k x43).bind fun bt300 => (if (x43.size : Int) = x42 then (if bt300.2 = true then (laws_FnNumbersReflect.j9 k x47 x48 x49 (bt300.1 != x41)) else (laws_FnNumbersReflect.j9 k x47 x48 x49 true)) else (laws_FnNumbersReflect.j9 k x47 x48 x49 true))) else (if x49 = true then ((impl_ReflectedText.f k x48 (x47.size : Int)).bind fun bt304 => (if bt304.2 = true then (some (bt304.1.toList == x47.toList)) else (some true))) else (some true))
def laws_FnNumbersReflect.j9 : Nat → ByteArray → Int → Bool → Bool → Option (Bool)
  | 0, _, _, _, _ => none
  | k + 1, x47, x48, x49, x390 => if x390 = true then (some false) else (if x49 = true then ((impl_ReflectedText.f k x48 (x47.size : Int)).bind fun bt302 => (if bt302.2 = true then (some (bt302.1.toList == x47.toList)) else (some true))) else (some true))
def laws_FnNumbersReflect.j6 : Nat → Int → Int → Int → Int → Int → Int → ByteArray → Bool → ByteArray → Int → Bool → Bool → Option (Bool)
  | 0, _, _, _, _, _, _, _, _, _, _, _, _ => none
  | k + 1, x34, x35, x36, x37, x41, x42, x43, x44, x47, x48, x49, x346 => if x346 = true then (some false) else (if (wrap64 (x35 - x34)) ≤ 64 then (laws_FnNumbersReflect.l0 k x35 x36 x37 x41 x42 x43 x44 x47 x48 x49 0 x34) else (laws_FnNumbersReflect.j8 k x41 x42 x43 x44 x47 x48 x49))
def laws_FnNumbersReflect.l0 : Nat → Int → Int → Int → Int → Int → ByteArray → Bool → ByteArray → Int → Bool → Int → Int → Option (Bool)
  | 0, _, _, _, _, _, _, _, _, _, _, _, _ => none
  | k + 1, x35, x36, x37, x41, x42, x43, x44, x47, x48, x49, x56, x57 => if x57 < x35 then ((impl_ChangedDigit.f k x57).bind fun bt298 => (if bt298.2 = true then (if bt298.1 = x36 then (laws_FnNumbersReflect.l0 k x35 x36 x37 x41 x42 x43 x44 x47 x48 x49 (wrap64 (x56 + 1)) (wrap64 (x57 + 1))) else (laws_FnNumbersReflect.l0 k x35 x36 x37 x41 x42 x43 x44 x47 x48 x49 x56 (wrap64 (x57 + 1)))) else (some false))) else (if x56 = x37 then (laws_FnNumbersReflect.j8 k x41 x42 x43 x44 x47 x48 x49) else (some false))
def laws_FnNumbersReflect.j1 : Nat → List Int → Int → Int → Int → Bool → Option (Bool)
  | 0, _, _, _, _, _ => none
  | k + 1, x1, x5, x6, x14, x164 => if x164 = true then (some false) else ((impl_ReflectedOf.f (wrap64 (x5 + 1))).bind fun bt264 => (if bt264.2 = true then (if 0 ≤ x14 then (laws_FnNumbersReflect.j2 k x1 x5 ((Go.bits .xor .i64 bt264.1 x6) != (shl .i64 1 x14))) else (none)) else (laws_FnNumbersReflect.j2 k x1 x5 false)))
def laws_FnNumbersReflect.j2 : Nat → List Int → Int → Bool → Option (Bool)
  | 0, _, _, _ => none
  | k + 1, x1, x5, x179 => if x179 = true then (some false) else ((impl_ReflectedText.f k x5 40).bind fun bt266 => ((impl_RankOfText.f k bt266.1).bind fun bt268 => (if bt266.2 = true then (if bt268.2 = true then (if bt268.1 = x5 then (if (bt266.1.size : Int) = 40 then (laws_FnNumbersReflect.j3 k x1) else (some false)) else (some false)) else (some false)) else (laws_FnNumbersReflect.j3 k x1))))
end
def laws_FnNumbersReflect.f (k : Nat) (l0 : List Int) (l1 : List Int) : Option (Bool) := (laws_big.f l0 l1).bind fun t246 => (if t246 = true then (some true) else ((spec_DrawReflectedOf.f k l0).bind fun t247 => ((impl_ReflectedOf.f t247).bind fun bt248 => ((spec_ReflectedOf.f t247).bind fun bt250 => ((impl_NumberOfReflected.f k t247).bind fun bt252 => ((spec_NumberOfReflected.f k t247).bind fun bt254 => ((impl_ChangedDigit.f k t247).bind fun bt256 => ((spec_ChangedDigit.f k t247).bind fun bt258 => (if (bt248.2 != bt250.2) = true then (laws_FnNumbersReflect.j0 k l1 t247 bt248.1 bt248.2 bt256.1 true) else (if bt248.1 = bt250.1 then (if (bt252.2 != bt254.2) = true then (laws_FnNumbersReflect.j0 k l1 t247 bt248.1 bt248.2 bt256.1 true) else (if bt252.1 = bt254.1 then (if (bt256.2 != bt258.2) = true then (laws_FnNumbersReflect.j0 k l1 t247 bt248.1 bt248.2 bt256.1 true) else (if bt256.1 = bt258.1 then (if (bt252.2 != bt248.2) = true then (laws_FnNumbersReflect.j0 k l1 t247 bt248.1 bt248.2 bt256.1 true) else (laws_FnNumbersReflect.j0 k l1 t247 bt248.1 bt248.2 bt256.1 (bt256.2 != bt248.2))) else (laws_FnNumbersReflect.j0 k l1 t247 bt248.1 bt248.2 bt256.1 true))) else (laws_FnNumbersReflect.j0 k l1 t247 bt248.1 bt248.2 bt256.1 true))) else (laws_FnNumbersReflect.j0 k l1 t247 bt248.1 bt248.2 bt256.1 true)))))))))))
theorem laws_FnNumbersReflect.mono_l : ∀ k, (∀ y0 y1 y2 y3 y4 y5, LeO (laws_FnNumbersReflect.j0 k y0 y1 y2 y3 y4 y5) (laws_FnNumbersReflect.j0 (k + 1) y0 y1 y2 y3 y4 y5)) ∧ (∀ y0, LeO (laws_FnNumbersReflect.j3 k y0) (laws_FnNumbersReflect.j3 (k + 1) y0)) ∧ (∀ y0 y1 y2 y3 y4 y5 y6 y7 y8 y9 y10 y11 y12 y13 y14 y15 y16, LeO (laws_FnNumbersReflect.j4 k y0 y1 y2 y3 y4 y5 y6 y7 y8 y9 y10 y11 y12 y13 y14 y15 y16) (laws_FnNumbersReflect.j4 (k + 1) y0 y1 y2 y3 y4 y5 y6 y7 y8 y9 y10 y11 y12 y13 y14 y15 y16)) ∧ (∀ y0 y1 y2 y3 y4 y5 y6 y7 y8 y9 y10 y11, LeO (laws_FnNumbersReflect.j5 k y0 y1 y2 y3 y4 y5 y6 y7 y8 y9 y10 y11) (laws_FnNumbersReflect.j5 (k + 1) y0 y1 y2 y3 y4 y5 y6 y7 y8 y9 y10 y11)) ∧ (∀ y0 y1 y2 y3 y4 y5 y6, LeO (laws_FnNumbersReflect.j8 k y0 y1 y2 y3 y4 y5 y6) (laws_FnNumbersReflect.j8 (k + 1) y0 y1 y2 y3 y4 y5 y6)) ∧ (∀ y0 y1 y2 y3, LeO (laws_FnNumbersReflect.j9 k y0 y1 y2 y3) (laws_FnNumbersReflect.j9 (k + 1) y0 y1 y2 y3)) ∧ (∀ y0 y1 y2 y3 y4 y5 y6 y7 y8 y9 y10 y11, LeO (laws_FnNumbersReflect.j6 k y0 y1 y2 y3 y4 y5 y6 y7 y8 y9 y10 y11) (laws_FnNumbersReflect.j6 (k + 1) y0 y1 y2 y3 y4 y5 y6 y7 y8 y9 y10 y11)) ∧ (∀ y0 y1 y2 y3 y4 y5 y6 y7 y8 y9 y10 y11, LeO (laws_FnNumbersReflect.l0 k y0 y1 y2 y3 y4 y5 y6 y7 y8 y9 y10 y11) (laws_FnNumbersReflect.l0 (k + 1) y0 y1 y2 y3 y4 y5 y6 y7 y8 y9 y10 y11)) ∧ (∀ y0 y1 y2 y3 y4, LeO (laws_FnNumbersReflect.j1 k y0 y1 y2 y3 y4) (laws_FnNumbersReflect.j1 (k + 1) y0 y1 y2 y3 y4)) ∧ (∀ y0 y1 y2, LeO (laws_FnNumbersReflect.j2 k y0 y1 y2) (laws_FnNumbersReflect.j2 (k + 1) y0 y1 y2))
  | 0 => ⟨fun _ _ _ _ _ _ r h => by simp [laws_FnNumbersReflect.j0] at h, fun _ r h => by simp [laws_FnNumbersReflect.j3] at h, fun _ _ _ _ _ _ _ _ _ _ _ _ _ _ _ _ _ r h => by simp [laws_FnNumbersReflect.j4] at h, fun _ _ _ _ _ _ _ _ _ _ _ _ r h => by simp [laws_FnNumbersReflect.j5] at h, fun _ _ _ _ _ _ _ r h => by simp [laws_FnNumbersReflect.j8] at h, fun _ _ _ _ r h => by simp [laws_FnNumbersReflect.j9] at h, fun _ _ _ _ _ _ _ _ _ _ _ _ r h => by simp [laws_FnNumbersReflect.j6] at h, fun _ _ _ _ _ _ _ _ _ _ _ _ r h => by simp [laws_FnNumbersReflect.l0] at h, fun _ _ _ _ _ r h => by simp [laws_FnNumbersReflect.j1] at h, fun _ _ _ r h => by simp [laws_FnNumbersReflect.j2] at h⟩
  | k + 1 => by
    obtain ⟨ih0, ih1, ih2, ih3, ih4, ih5, ih6, ih7, ih8, ih9⟩ := laws_FnNumbersReflect.mono_l k
    refine ⟨?_, ?_, ?_, ?_, ?_, ?_, ?_, ?_, ?_, ?_⟩
    · intro y0 y1 y2 y3 y4 y5
      unfold laws_FnNumbersReflect.j0
      repeat' first
      | (with_reducible exact ih0 _ _ _ _ _ _)
      | (with_reducible exact ih1 _)
      | (with_reducible exact ih2 _ _ _ _ _ _ _ _ _ _ _ _ _ _ _ _ _)
      | (with_reducible exact ih3 _ _ _ _ _ _ _ _ _ _ _ _)
      | (with_reducible exact ih4 _ _ _ _ _ _ _)
      | (with_reducible exact ih5 _ _ _ _)
      | (with_reducible exact ih6 _ _ _ _ _ _ _ _ _ _ _ _)
      | (with_reducible exact ih7 _ _ _ _ _ _ _ _ _ _ _ _)
      | (with_reducible exact ih8 _ _ _ _ _)
      | (with_reducible exact ih9 _ _ _)
      | (with_reducible exact impl_ChangedDigit.mono _ _)
      | (with_reducible exact impl_NumberOfReflected.mono _ _)
      | (with_reducible exact impl_RankOfText.mono _ _)
      | (with_reducible exact impl_ReflectedText.mono _ _ _)
      | (with_reducible exact impl_TimesChanged.mono _ _ _ _)
      | (with_reducible exact spec_ChangedDigit.mono _ _)
      | (with_reducible exact spec_DrawPlainSum.mono _ _)
      | (with_reducible exact spec_DrawRankOfText.mono _ _)
      | (with_reducible exact spec_DrawReflectedOf.mono _ _)
      | (with_reducible exact spec_DrawReflectedText.mono _ _)
      | (with_reducible exact spec_DrawTimesChanged.mono _ _)
      | (with_reducible exact spec_NumberOfReflected.mono _ _)
      | (with_reducible exact spec_RankOfText.mono _ _)
      | (with_reducible exact spec_ReflectedText.mono _ _ _)
      | (with_reducible exact spec_TimesChanged.mono _ _ _ _)
      | (with_reducible exact LeO.refl _)
      | (with_reducible exact LeO.none _)
      | (with_reducible refine LeO.ite ?_ ?_)
      | (with_reducible refine LeO.bind ?_ (fun _ => ?_))
      | exact ih0 _ _ _ _ _ _
      | exact ih1 _
      | exact ih2 _ _ _ _ _ _ _ _ _ _ _ _ _ _ _ _ _
      | exact ih3 _ _ _ _ _ _ _ _ _ _ _ _
      | exact ih4 _ _ _ _ _ _ _
      | exact ih5 _ _ _ _
      | exact ih6 _ _ _ _ _ _ _ _ _ _ _ _
      | exact ih7 _ _ _ _ _ _ _ _ _ _ _ _
      | exact ih8 _ _ _ _ _
      | exact ih9 _ _ _
      | exact impl_ChangedDigit.mono _ _
      | exact impl_NumberOfReflected.mono _ _
      | exact impl_RankOfText.mono _ _
      | exact impl_ReflectedText.mono _ _ _
      | exact impl_TimesChanged.mono _ _ _ _
      | exact spec_ChangedDigit.mono _ _
      | exact spec_DrawPlainSum.mono _ _
      | exact spec_DrawRankOfText.mono _ _
      | exact spec_DrawReflectedOf.mono _ _
      | exact spec_DrawReflectedText.mono _ _
      | exact spec_DrawTimesChanged.mono _ _
      | exact spec_NumberOfReflected.mono _ _
      | exact spec_RankOfText.mono _ _
      | exact spec_ReflectedText.mono _ _ _
      | exact spec_TimesChanged.mono _ _ _ _
      | exact LeO.none _
      | refine LeO.ite ?_ ?_
      | refine LeO.bind ?_ (fun _ => ?_)
    · intro y0
      unfold laws_FnNumbersReflect.j3
      repeat' first
      | (with_reducible exact ih0 _ _ _ _ _ _)
      | (with_reducible exact ih1 _)
      | (with_reducible exact ih2 _ _ _ _ _ _ _ _ _ _ _ _ _ _ _ _ _)
      | (with_reducible exact ih3 _ _ _ _ _ _ _ _ _ _ _ _)
      | (with_reducible exact ih4 _ _ _ _ _ _ _)
      | (with_reducible exact ih5 _ _ _ _)
      | (with_reducible exact ih6 _ _ _ _ _ _ _ _ _ _ _ _)
      | (with_reducible exact ih7 _ _ _ _ _ _ _ _ _ _ _ _)
      | (with_reducible exact ih8 _ _ _ _ _)
      | (with_reducible exact ih9 _ _ _)
      | (with_reducible exact impl_ChangedDigit.mono _ _)
      | (with_reducible exact impl_NumberOfReflected.mono _ _)
      | (with_reducible exact impl_RankOfText.mono _ _)
      | (with_reducible exact impl_ReflectedText.mono _ _ _)
      | (with_reducible exact impl_TimesChanged.mono _ _ _ _)
      | (with_reducible exact spec_ChangedDigit.mono _ _)
      | (with_reducible exact spec_DrawPlainSum.mono _ _)
      | (with_reducible exact spec_DrawRankOfText.mono _ _)
      | (with_reducible exact spec_DrawReflectedOf.mono _ _)
      | (with_reducible exact spec_DrawReflectedText.mono _ _)
      | (with_reducible exact spec_DrawTimesChanged.mono _ _)
      | (with_reducible exact spec_NumberOfReflected.mono _ _)
      | (with_reducible exact spec_RankOfText.mono _ _)
      | (with_reducible exact spec_ReflectedText.mono _ _ _)
      | (with_reducible exact spec_TimesChanged.mono _ _ _ _)
      | (with_reducible exact LeO.refl _)
      | (with_reducible exact LeO.none _)
      | (with_reducible refine LeO.ite ?_ ?_)
      | (with_reducible refine LeO.bind ?_ (fun _ => ?_))
      | exact ih0 _ _ _ _ _ _
      | exact ih1 _
      | exact ih2 _ _ _ _ _ _ _ _ _ _ _ _ _ _ _ _ _
      | exact ih3 _ _ _ _ _ _ _ _ _ _ _ _
      | exact ih4 _ _ _ _ _ _ _
      | exact ih5 _ _ _ _
      | exact ih6 _ _ _ _ _ _ _ _ _ _ _ _
      | exact ih7 _ _ _ _ _ _ _ _ _ _ _ _
      | exact ih8 _ _ _ _ _
      | exact ih9 _ _ _
      | exact impl_ChangedDigit.mono _ _
      | exact impl_NumberOfReflected.mono _ _
      | exact impl_RankOfText.mono _ _
      | exact impl_ReflectedText.mono _ _ _
      | exact impl_TimesChanged.mono _ _ _ _
      | exact spec_ChangedDigit.mono _ _
      | exact spec_DrawPlainSum.mono _ _
      | exact spec_DrawRankOfText.mono _ _
      | exact spec_DrawReflectedOf.mono _ _
      | exact spec_DrawReflectedText.mono _ _
      | exact spec_DrawTimesChanged.mono _ _
      | exact spec_NumberOfReflected.mono _ _
      | exact spec_RankOfText.mono _ _
      | exact spec_ReflectedText.mono _ _ _
      | exact spec_TimesChanged.mono _ _ _ _
      | exact LeO.none _
      | refine LeO.ite ?_ ?_
      | refine LeO.bind ?_ (fun _ => ?_)
    · intro y0 y1 y2 y3 y4 y5 y6 y7 y8 y9 y10 y11 y12 y13 y14 y15 y16
      unfold laws_FnNumbersReflect.j4
      repeat' first
      | (with_reducible exact ih0 _ _ _ _ _ _)
      | (with_reducible exact ih1 _)
      | (with_reducible exact ih2 _ _ _ _ _ _ _ _ _ _ _ _ _ _ _ _ _)
      | (with_reducible exact ih3 _ _ _ _ _ _ _ _ _ _ _ _)
      | (with_reducible exact ih4 _ _ _ _ _ _ _)
      | (with_reducible exact ih5 _ _ _ _)
      | (with_reducible exact ih6 _ _ _ _ _ _ _ _ _ _ _ _)
      | (with_reducible exact ih7 _ _ _ _ _ _ _ _ _ _ _ _)
      | (with_reducible exact ih8 _ _ _ _ _)
      | (with_reducible exact ih9 _ _ _)
      | (with_reducible exact impl_ChangedDigit.mono _ _)
      | (with_reducible exact impl_NumberOfReflected.mono _ _)
      | (with_reducible exact impl_RankOfText.mono _ _)
      | (with_reducible exact impl_ReflectedText.mono _ _ _)
      | (with_reducible exact impl_TimesChanged.mono _ _ _ _)
      | (with_reducible exact spec_ChangedDigit.mono _ _)
      | (with_reducible exact spec_DrawPlainSum.mono _ _)
      | (with_reducible exact spec_DrawRankOfText.mono _ _)
      | (with_reducible exact spec_DrawReflectedOf.mono _ _)
      | (with_reducible exact spec_DrawReflectedText.mono _ _)
      | (with_reducible exact spec_DrawTimesChanged.mono _ _)
      | (with_reducible exact spec_NumberOfReflected.mono _ _)
      | (with_reducible exact spec_RankOfText.mono _ _)
      | (with_reducible exact spec_ReflectedText.mono _ _ _)
      | (with_reducible exact spec_TimesChanged.mono _ _ _ _)
      | (with_reducible exact LeO.refl _)
      | (with_reducible exact LeO.none _)
      | (with_reducible refine LeO.ite ?_ ?_)
      | (with_reducible refine LeO.bind ?_ (fun _ => ?_))
      | exact ih0 _ _ _ _ _ _
      | exact ih1 _
      | exact ih2 _ _ _ _ _ _ _ _ _ _ _ _ _ _ _ _ _
      | exact ih3 _ _ _ _ _ _ _ _ _ _ _ _
      | exact ih4 _ _ _ _ _ _ _
      | exact ih5 _ _ _ _
      | exact ih6 _ _ _ _ _ _ _ _ _ _ _ _
      | exact ih7 _ _ _ _ _ _ _ _ _ _ _ _
      | exact ih8 _ _ _ _ _
      | exact ih9 _ _ _
      | exact impl_ChangedDigit.mono _ _
      | exact impl_NumberOfReflected.mono _ _
      | exact impl_RankOfText.mono _ _
      | exact impl_ReflectedText.mono _ _ _
      | exact impl_TimesChanged.mono _ _ _ _
      | exact spec_ChangedDigit.mono _ _
      | exact spec_DrawPlainSum.mono _ _
      | exact spec_DrawRankOfText.mono _ _
      | exact spec_DrawReflectedOf.mono _ _
      | exact spec_DrawReflectedText.mono _ _
      | exact spec_DrawTimesChanged.mono _ _
      | exact spec_NumberOfReflected.mono _ _
      | exact spec_RankOfText.mono _ _
      | exact spec_ReflectedText.mono _ _ _
      | exact spec_TimesChanged.mono _ _ _ _
      | exact LeO.none _
      | refine LeO.ite ?_ ?_
      | refine LeO.bind ?_ (fun _ => ?_)
    · intro y0 y1 y2 y3 y4 y5 y6 y7 y8 y9 y10 y11
      unfold laws_FnNumbersReflect.j5
      repeat' first
      | (with_reducible exact ih0 _ _ _ _ _ _)
      | (with_reducible exact ih1 _)
      | (with_reducible exact ih2 _ _ _ _ _ _ _ _ _ _ _ _ _ _ _ _ _)
      | (with_reducible exact ih3 _ _ _ _ _ _ _ _ _ _ _ _)
      | (with_reducible exact ih4 _ _ _ _ _ _ _)
      | (with_reducible exact ih5 _ _ _ _)
      | (with_reducible exact ih6 _ _ _ _ _ _ _ _ _ _ _ _)
      | (with_reducible exact ih7 _ _ _ _ _ _ _ _ _ _ _ _)
      | (with_reducible exact ih8 _ _ _ _ _)
      | (with_reducible exact ih9 _ _ _)
      | (with_reducible exact impl_ChangedDigit.mono _ _)
      | (with_reducible exact impl_NumberOfReflected.mono _ _)
      | (with_reducible exact impl_RankOfText.mono _ _)
      | (with_reducible exact impl_ReflectedText.mono _ _ _)
      | (with_reducible exact impl_TimesChanged.mono _ _ _ _)
      | (with_reducible exact spec_ChangedDigit.mono _ _)
      | (with_reducible exact spec_DrawPlainSum.mono _ _)
      | (with_reducible exact spec_DrawRankOfText.mono _ _)
      | (with_reducible exact spec_DrawReflectedOf.mono _ _)
      | (with_reducible exact spec_DrawReflectedText.mono _ _)
      | (with_reducible exact spec_DrawTimesChanged.mono _ _)
      | (with_reducible exact spec_NumberOfReflected.mono _ _)
      | (with_reducible exact spec_RankOfText.mono _ _)
      | (with_reducible exact spec_ReflectedText.mono _ _ _)
      | (with_reducible exact spec_TimesChanged.mono _ _ _ _)
      | (with_reducible exact LeO.refl _)
      | (with_reducible exact LeO.none _)
      | (with_reducible refine LeO.ite ?_ ?_)
      | (with_reducible refine LeO.bind ?_ (fun _ => ?_))
      | exact ih0 _ _ _ _ _ _
      | exact ih1 _
      | exact ih2 _ _ _ _ _ _ _ _ _ _ _ _ _ _ _ _ _
      | exact ih3 _ _ _ _ _ _ _ _ _ _ _ _
      | exact ih4 _ _ _ _ _ _ _
      | exact ih5 _ _ _ _
      | exact ih6 _ _ _ _ _ _ _ _ _ _ _ _
      | exact ih7 _ _ _ _ _ _ _ _ _ _ _ _
      | exact ih8 _ _ _ _ _
      | exact ih9 _ _ _
      | exact impl_ChangedDigit.mono _ _
      | exact impl_NumberOfReflected.mono _ _
      | exact impl_RankOfText.mono _ _
      | exact impl_ReflectedText.mono _ _ _
      | exact impl_TimesChanged.mono _ _ _ _
      | exact spec_ChangedDigit.mono _ _
      | exact spec_DrawPlainSum.mono _ _
      | exact spec_DrawRankOfText.mono _ _
      | exact spec_DrawReflectedOf.mono _ _
      | exact spec_DrawReflectedText.mono _ _
      | exact spec_DrawTimesChanged.mono _ _
      | exact spec_NumberOfReflected.mono _ _
      | exact spec_RankOfText.mono _ _
      | exact spec_ReflectedText.mono _ _ _
      | exact spec_TimesChanged.mono _ _ _ _
      | exact LeO.none _
      | refine LeO.ite ?_ ?_
      | refine LeO.bind ?_ (fun _ => ?_)
    · intro y0 y1 y2 y3 y4 y5 y6
      unfold laws_FnNumbersReflect.j8
      repeat' first
      | (with_reducible exact ih0 _ _ _ _ _ _)
      | (with_reducible exact ih1 _)
      | (with_reducible exact ih2 _ _ _ _ _ _ _ _ _ _ _ _ _ _ _ _ _)
      | (with_reducible exact ih3 _ _ _ _ _ _ _ _ _ _ _ _)
      | (with_reducible exact ih4 _ _ _ _ _ _ _)
      | (with_reducible exact ih5 _ _ _ _)
      | (with_reducible exact ih6 _ _ _ _ _ _ _ _ _ _ _ _)
      | (with_reducible exact ih7 _ _ _ _ _ _ _ _ _ _ _ _)
      | (with_reducible exact ih8 _ _ _ _ _)
      | (with_reducible exact ih9 _ _ _)
      | (with_reducible exact impl_ChangedDigit.mono _ _)
      | (with_reducible exact impl_NumberOfReflected.mono _ _)
      | (with_reducible exact impl_RankOfText.mono _ _)
      | (with_reducible exact impl_ReflectedText.mono _ _ _)
      | (with_reducible exact impl_TimesChanged.mono _ _ _ _)
      | (with_reducible exact spec_ChangedDigit.mono _ _)
      | (with_reducible exact spec_DrawPlainSum.mono _ _)
      | (with_reducible exact spec_DrawRankOfText.mono _ _)
      | (with_reducible exact spec_DrawReflectedOf.mono _ _)
      | (with_reducible exact spec_DrawReflectedText.mono _ _)
      | (with_reducible exact spec_DrawTimesChanged.mono _ _)
      | (with_reducible exact spec_NumberOfReflected.mono _ _)
      | (with_reducible exact spec_RankOfText.mono _ _)
      | (with_reducible exact spec_ReflectedText.mono _ _ _)
      | (with_reducible exact spec_TimesChanged.mono _ _ _ _)
      | (with_reducible exact LeO.refl _)
      | (with_reducible exact LeO.none _)
      | (with_reducible refine LeO.ite ?_ ?_)
      | (with_reducible refine LeO.bind ?_ (fun _ => ?_))
      | exact ih0 _ _ _ _ _ _
      | exact ih1 _
      | exact ih2 _ _ _ _ _ _ _ _ _ _ _ _ _ _ _ _ _
      | exact ih3 _ _ _ _ _ _ _ _ _ _ _ _
      | exact ih4 _ _ _ _ _ _ _
      | exact ih5 _ _ _ _
      | exact ih6 _ _ _ _ _ _ _ _ _ _ _ _
      | exact ih7 _ _ _ _ _ _ _ _ _ _ _ _
      | exact ih8 _ _ _ _ _
      | exact ih9 _ _ _
      | exact impl_ChangedDigit.mono _ _
      | exact impl_NumberOfReflected.mono _ _
      | exact impl_RankOfText.mono _ _
      | exact impl_ReflectedText.mono _ _ _
      | exact impl_TimesChanged.mono _ _ _ _
      | exact spec_ChangedDigit.mono _ _
      | exact spec_DrawPlainSum.mono _ _
      | exact spec_DrawRankOfText.mono _ _
      | exact spec_DrawReflectedOf.mono _ _
      | exact spec_DrawReflectedText.mono _ _
      | exact spec_DrawTimesChanged.mono _ _
      | exact spec_NumberOfReflected.mono _ _
      | exact spec_RankOfText.mono _ _
      | exact spec_ReflectedText.mono _ _ _
      | exact spec_TimesChanged.mono _ _ _ _
      | exact LeO.none _
      | refine LeO.ite ?_ ?_
      | refine LeO.bind ?_ (fun _ => ?_)
    · intro y0 y1 y2 y3
      unfold laws_FnNumbersReflect.j9
      repeat' first
      | (with_reducible exact ih0 _ _ _ _ _ _)
      | (with_reducible exact ih1 _)
      | (with_reducible exact ih2 _ _ _ _ _ _ _ _ _ _ _ _ _ _ _ _ _)
      | (with_reducible exact ih3 _ _ _ _ _ _ _ _ _ _ _ _)
      | (with_reducible exact ih4 _ _ _ _ _ _ _)
      | (with_reducible exact ih5 _ _ _ _)
      | (with_reducible exact ih6 _ _ _ _ _ _ _ _ _ _ _ _)
      | (with_reducible exact ih7 _ _ _ _ _ _ _ _ _ _ _ _)
      | (with_reducible exact ih8 _ _ _ _ _)
      | (with_reducible exact ih9 _ _ _)
      | (with_reducible exact impl_ChangedDigit.mono _ _)
      | (with_reducible exact impl_NumberOfReflected.mono _ _)
      | (with_reducible exact impl_RankOfText.mono _ _)
      | (with_reducible exact impl_ReflectedText.mono _ _ _)
      | (with_reducible exact impl_TimesChanged.mono _ _ _ _)
      | (with_reducible exact spec_ChangedDigit.mono _ _)
      | (with_reducible exact spec_DrawPlainSum.mono _ _)
      | (with_reducible exact spec_DrawRankOfText.mono _ _)
      | (with_reducible exact spec_DrawReflectedOf.mono _ _)
      | (with_reducible exact spec_DrawReflectedText.mono _ _)
      | (with_reducible exact spec_DrawTimesChanged.mono _ _)
      | (with_reducible exact spec_NumberOfReflected.mono _ _)
      | (with_reducible exact spec_RankOfText.mono _ _)
      | (with_reducible exact spec_ReflectedText.mono _ _ _)
      | (with_reducible exact spec_TimesChanged.mono _ _ _ _)
      | (with_reducible exact LeO.refl _)
      | (with_reducible exact LeO.none _)
      | (with_reducible refine LeO.ite ?_ ?_)
      | (with_reducible refine LeO.bind ?_ (fun _ => ?_))
      | exact ih0 _ _ _ _ _ _
      | exact ih1 _
      | exact ih2 _ _ _ _ _ _ _ _ _ _ _ _ _ _ _ _ _
      | exact ih3 _ _ _ _ _ _ _ _ _ _ _ _
      | exact ih4 _ _ _ _ _ _ _
      | exact ih5 _ _ _ _
      | exact ih6 _ _ _ _ _ _ _ _ _ _ _ _
      | exact ih7 _ _ _ _ _ _ _ _ _ _ _ _
      | exact ih8 _ _ _ _ _
      | exact ih9 _ _ _
      | exact impl_ChangedDigit.mono _ _
      | exact impl_NumberOfReflected.mono _ _
      | exact impl_RankOfText.mono _ _
      | exact impl_ReflectedText.mono _ _ _
      | exact impl_TimesChanged.mono _ _ _ _
      | exact spec_ChangedDigit.mono _ _
      | exact spec_DrawPlainSum.mono _ _
      | exact spec_DrawRankOfText.mono _ _
      | exact spec_DrawReflectedOf.mono _ _
      | exact spec_DrawReflectedText.mono _ _
      | exact spec_DrawTimesChanged.mono _ _
      | exact spec_NumberOfReflected.mono _ _
      | exact spec_RankOfText.mono _ _
      | exact spec_ReflectedText.mono _ _ _
      | exact spec_TimesChanged.mono _ _ _ _
      | exact LeO.none _
      | refine LeO.ite ?_ ?_
      | refine LeO.bind ?_ (fun _ => ?_)
    · intro y0 y1 y2 y3 y4 y5 y6 y7 y8 y9 y10 y11
      unfold laws_FnNumbersReflect.j6
      repeat' first
      | (with_reducible exact ih0 _ _ _ _ _ _)
      | (with_reducible exact ih1 _)
      | (with_reducible exact ih2 _ _ _ _ _ _ _ _ _ _ _ _ _ _ _ _ _)
      | (with_reducible exact ih3 _ _ _ _ _ _ _ _ _ _ _ _)
      | (with_reducible exact ih4 _ _ _ _ _ _ _)
      | (with_reducible exact ih5 _ _ _ _)
      | (with_reducible exact ih6 _ _ _ _ _ _ _ _ _ _ _ _)
      | (with_reducible exact ih7 _ _ _ _ _ _ _ _ _ _ _ _)
      | (with_reducible exact ih8 _ _ _ _ _)
      | (with_reducible exact ih9 _ _ _)
      | (with_reducible exact impl_ChangedDigit.mono _ _)
      | (with_reducible exact impl_NumberOfReflected.mono _ _)
      | (with_reducible exact impl_RankOfText.mono _ _)
      | (with_reducible exact impl_ReflectedText.mono _ _ _)
      | (with_reducible exact impl_TimesChanged.mono _ _ _ _)
      | (with_reducible exact spec_ChangedDigit.mono _ _)
      | (with_reducible exact spec_DrawPlainSum.mono _ _)
      | (with_reducible exact spec_DrawRankOfText.mono _ _)
      | (with_reducible exact spec_DrawReflectedOf.mono _ _)
      | (with_reducible exact spec_DrawReflectedText.mono _ _)
      | (with_reducible exact spec_DrawTimesChanged.mono _ _)
      | (with_reducible exact spec_NumberOfReflected.mono _ _)
      | (with_reducible exact spec_RankOfText.mono _ _)
      | (with_reducible exact spec_ReflectedText.mono _ _ _)
      | (with_reducible exact spec_TimesChanged.mono _ _ _ _)
      | (with_reducible exact LeO.refl _)
      | (with_reducible exact LeO.none _)
      | (with_reducible refine LeO.ite ?_ ?_)
      | (with_reducible refine LeO.bind ?_ (fun _ => ?_))
      | exact ih0 _ _ _ _ _ _
      | exact ih1 _
      | exact ih2 _ _ _ _ _ _ _ _ _ _ _ _ _ _ _ _ _
      | exact ih3 _ _ _ _ _ _ _ _ _ _ _ _
      | exact ih4 _ _ _ _ _ _ _
      | exact ih5 _ _ _ _
      | exact ih6 _ _ _ _ _ _ _ _ _ _ _ _
      | exact ih7 _ _ _ _ _ _ _ _ _ _ _ _
      | exact ih8 _ _ _ _ _
      | exact ih9 _ _ _
      | exact impl_ChangedDigit.mono _ _
      | exact impl_NumberOfReflected.mono _ _
      | exact impl_RankOfText.mono _ _
      | exact impl_ReflectedText.mono _ _ _
      | exact impl_TimesChanged.mono _ _ _ _
      | exact spec_ChangedDigit.mono _ _
      | exact spec_DrawPlainSum.mono _ _
      | exact spec_DrawRankOfText.mono _ _
      | exact spec_DrawReflectedOf.mono _ _
      | exact spec_DrawReflectedText.mono _ _
      | exact spec_DrawTimesChanged.mono _ _
      | exact spec_NumberOfReflected.mono _ _
      | exact spec_RankOfText.mono _ _
      | exact spec_ReflectedText.mono _ _ _
      | exact spec_TimesChanged.mono _ _ _ _
      | exact LeO.none _
      | refine LeO.ite ?_ ?_
      | refine LeO.bind ?_ (fun _ => ?_)
    · intro y0 y1 y2 y3 y4 y5 y6 y7 y8 y9 y10 y11
      unfold laws_FnNumbersReflect.l0
      repeat' first
      | (with_reducible exact ih0 _ _ _ _ _ _)
      | (with_reducible exact ih1 _)
      | (with_reducible exact ih2 _ _ _ _ _ _ _ _ _ _ _ _ _ _ _ _ _)
      | (with_reducible exact ih3 _ _ _ _ _ _ _ _ _ _ _ _)
      | (with_reducible exact ih4 _ _ _ _ _ _ _)
      | (with_reducible exact ih5 _ _ _ _)
      | (with_reducible exact ih6 _ _ _ _ _ _ _ _ _ _ _ _)
      | (with_reducible exact ih7 _ _ _ _ _ _ _ _ _ _ _ _)
      | (with_reducible exact ih8 _ _ _ _ _)
      | (with_reducible exact ih9 _ _ _)
      | (with_reducible exact impl_ChangedDigit.mono _ _)
      | (with_reducible exact impl_NumberOfReflected.mono _ _)
      | (with_reducible exact impl_RankOfText.mono _ _)
      | (with_reducible exact impl_ReflectedText.mono _ _ _)
      | (with_reducible exact impl_TimesChanged.mono _ _ _ _)
      | (with_reducible exact spec_ChangedDigit.mono _ _)
      | (with_reducible exact spec_DrawPlainSum.mono _ _)
      | (with_reducible exact spec_DrawRankOfText.mono _ _)
      | (with_reducible exact spec_DrawReflectedOf.mono _ _)
      | (with_reducible exact spec_DrawReflectedText.mono _ _)
      | (with_reducible exact spec_DrawTimesChanged.mono _ _)
      | (with_reducible exact spec_NumberOfReflected.mono _ _)
      | (with_reducible exact spec_RankOfText.mono _ _)
      | (with_reducible exact spec_ReflectedText.mono _ _ _)
      | (with_reducible exact spec_TimesChanged.mono _ _ _ _)
      | (with_reducible exact LeO.refl _)
      | (with_reducible exact LeO.none _)
      | (with_reducible refine LeO.ite ?_ ?_)
      | (with_reducible refine LeO.bind ?_ (fun _ => ?_))
      | exact ih0 _ _ _ _ _ _
      | exact ih1 _
      | exact ih2 _ _ _ _ _ _ _ _ _ _ _ _ _ _ _ _ _
      | exact ih3 _ _ _ _ _ _ _ _ _ _ _ _
      | exact ih4 _ _ _ _ _ _ _
      | exact ih5 _ _ _ _
      | exact ih6 _ _ _ _ _ _ _ _ _ _ _ _
      | exact ih7 _ _ _ _ _ _ _ _ _ _ _ _
      | exact ih8 _ _ _ _ _
      | exact ih9 _ _ _
      | exact impl_ChangedDigit.mono _ _
      | exact impl_NumberOfReflected.mono _ _
      | exact impl_RankOfText.mono _ _
      | exact impl_ReflectedText.mono _ _ _
      | exact impl_TimesChanged.mono _ _ _ _
      | exact spec_ChangedDigit.mono _ _
      | exact spec_DrawPlainSum.mono _ _
      | exact spec_DrawRankOfText.mono _ _
      | exact spec_DrawReflectedOf.mono _ _
      | exact spec_DrawReflectedText.mono _ _
      | exact spec_DrawTimesChanged.mono _ _
      | exact spec_NumberOfReflected.mono _ _
      | exact spec_RankOfText.mono _ _
      | exact spec_ReflectedText.mono _ _ _
      | exact spec_TimesChanged.mono _ _ _ _
      | exact LeO.none _
      | refine LeO.ite ?_ ?_
      | refine LeO.bind ?_ (fun _ => ?_)
    · intro y0 y1 y2 y3 y4
      unfold laws_FnNumbersReflect.j1
      repeat' first
      | (with_reducible exact ih0 _ _ _ _ _ _)
      | (with_reducible exact ih1 _)
      | (with_reducible exact ih2 _ _ _ _ _ _ _ _ _ _ _ _ _ _ _ _ _)
      | (with_reducible exact ih3 _ _ _ _ _ _ _ _ _ _ _ _)
      | (with_reducible exact ih4 _ _ _ _ _ _ _)
      | (with_reducible exact ih5 _ _ _ _)
      | (with_reducible exact ih6 _ _ _ _ _ _ _ _ _ _ _ _)
      | (with_reducible exact ih7 _ _ _ _ _ _ _ _ _ _ _ _)
      | (with_reducible exact ih8 _ _ _ _ _)
      | (with_reducible exact ih9 _ _ _)
      | (with_reducible exact impl_ChangedDigit.mono _ _)
      | (with_reducible exact impl_NumberOfReflected.mono _ _)
      | (with_reducible exact impl_RankOfText.mono _ _)
      | (with_reducible exact impl_ReflectedText.mono _ _ _)
      | (with_reducible exact impl_TimesChanged.mono _ _ _ _)
      | (with_reducible exact spec_ChangedDigit.mono _ _)
      | (with_reducible exact spec_DrawPlainSum.mono _ _)
      | (with_reducible exact spec_DrawRankOfText.mono _ _)
      | (with_reducible exact spec_DrawReflectedOf.mono _ _)
      | (with_reducible exact spec_DrawReflectedText.mono _ _)
      | (with_reducible exact spec_DrawTimesChanged.mono _ _)
      | (with_reducible exact spec_NumberOfReflected.mono _ _)
      | (with_reducible exact spec_RankOfText.mono _ _)
      | (with_reducible exact spec_ReflectedText.mono _ _ _)
      | (with_reducible exact spec_TimesChanged.mono _ _ _ _)
      | (with_reducible exact LeO.refl _)
      | (with_reducible exact LeO.none _)
      | (with_reducible refine LeO.ite ?_ ?_)
      | (with_reducible refine LeO.bind ?_ (fun _ => ?_))
      | exact ih0 _ _ _ _ _ _
      | exact ih1 _
      | exact ih2 _ _ _ _ _ _ _ _ _ _ _ _ _ _ _ _ _
      | exact ih3 _ _ _ _ _ _ _ _ _ _ _ _
      | exact ih4 _ _ _ _ _ _ _
      | exact ih5 _ _ _ _
      | exact ih6 _ _ _ _ _ _ _ _ _ _ _ _
      | exact ih7 _ _ _ _ _ _ _ _ _ _ _ _
      | exact ih8 _ _ _ _ _
      | exact ih9 _ _ _
      | exact impl_ChangedDigit.mono _ _
      | exact impl_NumberOfReflected.mono _ _
      | exact impl_RankOfText.mono _ _
      | exact impl_ReflectedText.mono _ _ _
      | exact impl_TimesChanged.mono _ _ _ _
      | exact spec_ChangedDigit.mono _ _
      | exact spec_DrawPlainSum.mono _ _
      | exact spec_DrawRankOfText.mono _ _
      | exact spec_DrawReflectedOf.mono _ _
      | exact spec_DrawReflectedText.mono _ _
      | exact spec_DrawTimesChanged.mono _ _
      | exact spec_NumberOfReflected.mono _ _
      | exact spec_RankOfText.mono _ _
      | exact spec_ReflectedText.mono _ _ _
      | exact spec_TimesChanged.mono _ _ _ _
      | exact LeO.none _
      | refine LeO.ite ?_ ?_
      | refine LeO.bind ?_ (fun _ => ?_)
    · intro y0 y1 y2
      unfold laws_FnNumbersReflect.j2
      repeat' first
      | (with_reducible exact ih0 _ _ _ _ _ _)
      | (with_reducible exact ih1 _)
      | (with_reducible exact ih2 _ _ _ _ _ _ _ _ _ _ _ _ _ _ _ _ _)
      | (with_reducible exact ih3 _ _ _ _ _ _ _ _ _ _ _ _)
      | (with_reducible exact ih4 _ _ _ _ _ _ _)
      | (with_reducible exact ih5 _ _ _ _)
      | (with_reducible exact ih6 _ _ _ _ _ _ _ _ _ _ _ _)
      | (with_reducible exact ih7 _ _ _ _ _ _ _ _ _ _ _ _)
      | (with_reducible exact ih8 _ _ _ _ _)
      | (with_reducible exact ih9 _ _ _)
      | (with_reducible exact impl_ChangedDigit.mono _ _)
      | (with_reducible exact impl_NumberOfReflected.mono _ _)
      | (with_reducible exact impl_RankOfText.mono _ _)
      | (with_reducible exact impl_ReflectedText.mono _ _ _)
      | (with_reducible exact impl_TimesChanged.mono _ _ _ _)
      | (with_reducible exact spec_ChangedDigit.mono _ _)
      | (with_reducible exact spec_DrawPlainSum.mono _ _)
      | (with_reducible exact spec_DrawRankOfText.mono _ _)
      | (with_reducible exact spec_DrawReflectedOf.mono _ _)
      | (with_reducible exact spec_DrawReflectedText.mono _ _)
      | (with_reducible exact spec_DrawTimesChanged.mono _ _)
      | (with_reducible exact spec_NumberOfReflected.mono _ _)
      | (with_reducible exact spec_RankOfText.mono _ _)
      | (with_reducible exact spec_ReflectedText.mono _ _ _)
      | (with_reducible exact spec_TimesChanged.mono _ _ _ _)
      | (with_reducible exact LeO.refl _)
      | (with_reducible exact LeO.none _)
      | (with_reducible refine LeO.ite ?_ ?_)
      | (with_reducible refine LeO.bind ?_ (fun _ => ?_))
      | exact ih0 _ _ _ _ _ _
      | exact ih1 _
      | exact ih2 _ _ _ _ _ _ _ _ _ _ _ _ _ _ _ _ _
      | exact ih3 _ _ _ _ _ _ _ _ _ _ _ _
      | exact ih4 _ _ _ _ _ _ _
      | exact ih5 _ _ _ _
      | exact ih6 _ _ _ _ _ _ _ _ _ _ _ _
      | exact ih7 _ _ _ _ _ _ _ _ _ _ _ _
      | exact ih8 _ _ _ _ _
      | exact ih9 _ _ _
      | exact impl_ChangedDigit.mono _ _
      | exact impl_NumberOfReflected.mono _ _
      | exact impl_RankOfText.mono _ _
      | exact impl_ReflectedText.mono _ _ _
      | exact impl_TimesChanged.mono _ _ _ _
      | exact spec_ChangedDigit.mono _ _
      | exact spec_DrawPlainSum.mono _ _
      | exact spec_DrawRankOfText.mono _ _
      | exact spec_DrawReflectedOf.mono _ _
      | exact spec_DrawReflectedText.mono _ _
      | exact spec_DrawTimesChanged.mono _ _
      | exact spec_NumberOfReflected.mono _ _
      | exact spec_RankOfText.mono _ _
      | exact spec_ReflectedText.mono _ _ _
      | exact spec_TimesChanged.mono _ _ _ _
      | exact LeO.none _
      | refine LeO.ite ?_ ?_
      | refine LeO.bind ?_ (fun _ => ?_)
theorem laws_FnNumbersReflect.mono : ∀ a0 a1 k, LeO (laws_FnNumbersReflect.f k a0 a1) (laws_FnNumbersReflect.f (k + 1) a0 a1) := by
  intro a0 a1 k
  obtain ⟨ih0, ih1, ih2, ih3, ih4, ih5, ih6, ih7, ih8, ih9⟩ := laws_FnNumbersReflect.mono_l k
  unfold laws_FnNumbersReflect.f
  repeat' first
      | (with_reducible exact ih0 _ _ _ _ _ _)
      | (with_reducible exact ih1 _)
      | (with_reducible exact ih2 _ _ _ _ _ _ _ _ _ _ _ _ _ _ _ _ _)
      | (with_reducible exact ih3 _ _ _ _ _ _ _ _ _ _ _ _)
      | (with_reducible exact ih4 _ _ _ _ _ _ _)
      | (with_reducible exact ih5 _ _ _ _)
      | (with_reducible exact ih6 _ _ _ _ _ _ _ _ _ _ _ _)
      | (with_reducible exact ih7 _ _ _ _ _ _ _ _ _ _ _ _)
      | (with_reducible exact ih8 _ _ _ _ _)
      | (with_reducible exact ih9 _ _ _)
      | (with_reducible exact impl_ChangedDigit.mono _ _)
      | (with_reducible exact impl_NumberOfReflected.mono _ _)
      | (with_reducible exact impl_RankOfText.mono _ _)
      | (with_reducible exact impl_ReflectedText.mono _ _ _)
      | (with_reducible exact impl_TimesChanged.mono _ _ _ _)
      | (with_reducible exact spec_ChangedDigit.mono _ _)
      | (with_reducible exact spec_DrawPlainSum.mono _ _)
      | (with_reducible exact spec_DrawRankOfText.mono _ _)
      | (with_reducible exact spec_DrawReflectedOf.mono _ _)
      | (with_reducible exact spec_DrawReflectedText.mono _ _)
      | (with_reducible exact spec_DrawTimesChanged.mono _ _)
      | (with_reducible exact spec_NumberOfReflected.mono _ _)
      | (with_reducible exact spec_RankOfText.mono _ _)
      | (with_reducible exact spec_ReflectedText.mono _ _ _)
      | (with_reducible exact spec_TimesChanged.mono _ _ _ _)
      | (with_reducible exact LeO.refl _)
      | (with_reducible exact LeO.none _)
      | (with_reducible refine LeO.ite ?_ ?_)
      | (with_reducible refine LeO.bind ?_ (fun _ => ?_))
      | exact ih0 _ _ _ _ _ _
      | exact ih1 _
      | exact ih2 _ _ _ _ _ _ _ _ _ _ _ _ _ _ _ _ _
      | exact ih3 _ _ _ _ _ _ _ _ _ _ _ _
      | exact ih4 _ _ _ _ _ _ _
      | exact ih5 _ _ _ _
      | exact ih6 _ _ _ _ _ _ _ _ _ _ _ _
      | exact ih7 _ _ _ _ _ _ _ _ _ _ _ _
      | exact ih8 _ _ _ _ _
      | exact ih9 _ _ _
      | exact impl_ChangedDigit.mono _ _
      | exact impl_NumberOfReflected.mono _ _
      | exact impl_RankOfText.mono _ _
      | exact impl_ReflectedText.mono _ _ _
      | exact impl_TimesChanged.mono _ _ _ _
      | exact spec_ChangedDigit.mono _ _
      | exact spec_DrawPlainSum.mono _ _
      | exact spec_DrawRankOfText.mono _ _
      | exact spec_DrawReflectedOf.mono _ _
      | exact spec_DrawReflectedText.mono _ _
      | exact spec_DrawTimesChanged.mono _ _
      | exact spec_NumberOfReflected.mono _ _
      | exact spec_RankOfText.mono _ _
      | exact spec_ReflectedText.mono _ _ _
      | exact spec_TimesChanged.mono _ _ _ _
      | exact LeO.none _
      | refine LeO.ite ?_ ?_
      | refine LeO.bind ?_ (fun _ => ?_)
def laws_FnNumbersReflect.Pure : Prop := ∀ (l0 : List Int) (l1 : List Int), l0.length ≤ maxLen → l0.length * 1 ≤ 140737488351232 → (∀ x ∈ l0, (Lit.int .u8 x).wf = true) → l1.length ≤ maxLen → l1.length * 1 ≤ 140737488351232 → (∀ x ∈ l1, (Lit.int .u8 x).wf = true) → ∃ k, laws_FnNumbersReflect.f k l0 l1 = some true
/-- what is left open, told apart from what holds -/
structure Hole (P : Prop) : Prop where mk :: (out : P)
abbrev o_ : Bool := false
abbrev i_ : Bool := true
/-- a frame in which the marked slots hold whatever f says -/
def maskF : List Bool → List Value → (Nat → Value) → Nat → List Value
  | [], l, _, _ => l
  | _ :: _, [], _, _ => []
  | true :: bs, _ :: l, f, i => f i :: maskF bs l f (i + 1)
  | false :: bs, x :: l, f, i => x :: maskF bs l f (i + 1)
/-- the frame l, its marked slots out of l' -/
def mergeF : List Bool → List Value → List Value → List Value
  | [], l, _ => l
  | _ :: _, [], _ => []
  | _ :: _, x :: l, [] => x :: l
  | true :: bs, _ :: l, y :: l' => y :: mergeF bs l l'
  | false :: bs, x :: l, _ :: l' => x :: mergeF bs l l'
def slotF : List Value → Nat → Value
  | [], _ => .bool false
  | x :: _, 0 => x
  | _ :: l, n + 1 => slotF l n
theorem mask_merge : ∀ (bs : List Bool) (l l' : List Value) (f : Nat → Value) (i : Nat), mergeF bs l l' = l' → (∀ j, f (i + j) = slotF l' j) → maskF bs l f i = l'
  | [], l, l', f, i, h, _ => by cases l <;> exact h
  | b :: bs, [], l', f, i, h, _ => by cases b <;> (first | exact h | (simp only [mergeF] at h; rw [← h]; rfl))
  | b :: bs, x :: l, [], f, i, h, _ => by cases b <;> simp [mergeF] at h
  | true :: bs, x :: l, y :: l', f, i, h, hf => by
    simp only [mergeF, List.cons.injEq, true_and] at h
    simp only [maskF]
    rw [mask_merge bs l l' f (i + 1) h (fun j => by rw [show i + 1 + j = i + (j + 1) by omega, hf]; rfl), show f i = y from hf 0]
  | false :: bs, x :: l, y :: l', f, i, h, hf => by
    simp only [mergeF, List.cons.injEq] at h
    simp only [maskF]
    rw [mask_merge bs l l' f (i + 1) h.2 (fun j => by rw [show i + 1 + j = i + (j + 1) by omega, hf]; rfl), h.1]
/-- ways that meet again: the slots that a statement may write are told by one function instead of a letter each -/
theorem wp_cutF {P : Program} {s : Code} {K : Act → World → Prop} {Q' : Exit → Act → World → Prop} {l : List Value} {w : World} (bs : List Bool) (R : (Nat → Value) → World → Prop)
    (rest : ∀ f w', R f w' → K ⟨(maskF bs l f 0).toArray, []⟩ w')
    (first : ∀ (J K' : Act → World → Prop), (∀ l' w', mergeF bs l l' = l' → R (slotF l') w' → J ⟨l'.toArray, []⟩ w') → (∀ a' w', Met J a' w' → K' a' w') → s.wp P (Exit.then K' Q') ⟨l.toArray, []⟩ w) : s.wp P (Exit.then K Q') ⟨l.toArray, []⟩ w := by
  refine wp_cut (fun a' w' => ∃ l', a' = ⟨l'.toArray, []⟩ ∧ mergeF bs l l' = l' ∧ R (slotF l') w') ?_ ?_
  · rintro a' w' ⟨l', rfl, h1, h2⟩
    have := rest (slotF l') w' h2
    rwa [mask_merge bs l l' (slotF l') 0 h1 (fun j => by rw [Nat.zero_add])] at this
  · intro J K' hJ hK
    exact first J K' (fun l' w' h1 h2 => hJ _ _ ⟨l', rfl, h1, h2⟩) hK
end Go.Proofs.YtancjdpdinbddaaDoor.A
