/- The law FnExactPlayPairMoves, told over plain functions, holds for all arguments; no condition beyond the kinds of the numbers and the texts' sizes that any argument has. -/
import Derived.Test.YtgmmplcijhibgaaDoorAx3
import Derived.Test.YtgmmplcijhibgaaDoorAx4
import Derived.Test.YtgmmplcijhibgaaDoorPair
set_option linter.unusedVariables false
set_option linter.unusedSimpArgs false
namespace Go.Proofs.YtgmmplcijhibgaaDoor.Pure
open Go.RowKit Go.Proofs.YtgmmplcijhibgaaDoor.A Go.Proofs.YtgmmplcijhibgaaDoorW.PrintWords Go.Proofs.YtgmmplcijhibgaaDoorW.PrintLast Go.Proofs.YtgmmplcijhibgaaDoorW.PrintMore

def playP : List Bool → List Int → ByteArray × Bool
  | bs, [] => (sb bs, true)
  | bs, a :: r => if canP bs a = true then playP (makeP bs a) r else ((⟨#[]⟩ : ByteArray), false)
theorem specPlay_l0 {l : List Int} (hl : l.length ≤ 2000000) (r : List Int) : ∀ (k i : Nat) (bs : List Bool), 2 ≤ bs.length → bs.length ≤ 40 → l.drop i = r → r.length + 90 < k →
    spec_PlayPairMoves.l0 k (sb bs) l (l.length : Int) (i : Int) = some (playP bs r) := by
  induction r with
  | nil =>
    intro k i bs h1 h2 hd hk
    obtain ⟨k, rfl⟩ : ∃ m, k = m + 1 := ⟨k - 1, by omega⟩
    have : l.length ≤ i := List.drop_eq_nil_iff.1 hd
    rw [spec_PlayPairMoves.l0, if_neg (by omega)]; rfl
  | cons m r ih =>
    intro k i bs h1 h2 hd hk
    obtain ⟨k, rfl⟩ : ∃ m, k = m + 1 := ⟨k - 1, by omega⟩
    obtain ⟨g2, g3, g4⟩ := getElem?_drop_cons hd
    have hpl := pairL_length bs
    simp only [List.length_cons] at hk
    rw [spec_PlayPairMoves.l0, if_pos (by omega), if_pos (by omega), if_pos (by omega), rd_nat g2, twMoves h1 h2 (by omega), Option.bind_some, l1Has (by omega) m (by omega), mem_pairL (by omega), Option.bind_some, playP]
    by_cases q : canP bs m = true
    · rw [if_pos q, if_pos q, (twMake h1 h2 q).1, Option.bind_some, w64 (x := (i : Int) + 1) (by omega) (by omega), show ((i : Int) + 1) = ((i + 1 : Nat) : Int) by omega]
      exact ih k (i + 1) _ (by rw [makeP_length]; exact h1) (by rw [makeP_length]; exact h2) g3 (by omega)
    · rw [if_neg q, if_neg q]
theorem implPlay_l0 {l : List Int} (hl : l.length ≤ 2000000) (r : List Int) : ∀ (k i : Nat) (bs : List Bool), 2 ≤ bs.length → bs.length ≤ 40 → l.drop i = r → r.length < k →
    impl_PlayPairMoves.l0 k (sb bs) l (l.length : Int) (i : Int) = some (playP bs r) := by
  induction r with
  | nil =>
    intro k i bs h1 h2 hd hk
    obtain ⟨k, rfl⟩ : ∃ m, k = m + 1 := ⟨k - 1, by omega⟩
    have : l.length ≤ i := List.drop_eq_nil_iff.1 hd
    rw [impl_PlayPairMoves.l0, if_neg (by omega)]; rfl
  | cons m r ih =>
    intro k i bs h1 h2 hd hk
    obtain ⟨k, rfl⟩ : ∃ m, k = m + 1 := ⟨k - 1, by omega⟩
    obtain ⟨g2, g3, g4⟩ := getElem?_drop_cons hd
    simp only [List.length_cons] at hk
    rw [impl_PlayPairMoves.l0, if_pos (by omega), if_pos (by omega), if_pos (by omega), rd_nat g2, canPair h1 h2, Option.bind_some, playP]
    by_cases q : canP bs m = true
    · rw [if_pos q, if_pos q, (twMake h1 h2 q).2, Option.bind_some, w64 (x := (i : Int) + 1) (by omega) (by omega), show ((i : Int) + 1) = ((i + 1 : Nat) : Int) by omega]
      exact ih k (i + 1) _ (by rw [makeP_length]; exact h1) (by rw [makeP_length]; exact h2) g3 (by omega)
    · rw [if_neg q, if_neg q]
theorem FnExactPlayPairMoves : laws_FnExactPlayPairMoves.Pure := by
  intro s l hs _ _ _
  refine ⟨2000000, ?_⟩
  unfold laws_FnExactPlayPairMoves.f
  by_cases hbig : (s.size : Int) > 1048576
  · rw [if_pos hbig]
  rw [if_neg hbig]
  by_cases hlen : (l.length : Int) > 1048576
  · rw [if_pos hlen]
  rw [if_neg hlen, toIntS (by omega) (by omega)]
  have hE : laws_eqIntS.f 1999999 l l = some true := by rw [eqIntS (by omega) (by omega)]; simp
  have hT : laws_toIntS.f 1999999 l = some l := toIntS (by omega) (by omega)
  have fin : ∀ r : ByteArray × Bool, spec_PlayPairMoves.f 2000000 s l = some r → impl_PlayPairMoves.f 2000000 s l = some r → ((some l).bind fun t294 => ((spec_PlayPairMoves.f 2000000 s t294).bind fun bt297 => ((some l).bind fun t299 => ((impl_PlayPairMoves.f 2000000 s t299).bind fun bt302 => (if bt302.1.toList = bt297.1.toList then (laws_FnExactPlayPairMoves.j0 2000000 l t299 (bt302.2 != bt297.2)) else (laws_FnExactPlayPairMoves.j0 2000000 l t299 true)))))) = some true := by
    intro r h1 h2
    simp only [Option.bind_some, h1, h2, if_true, bne_self_eq_false]
    rw [laws_FnExactPlayPairMoves.j0, hT]
    simp [hE]
  suffices h : ∃ r : ByteArray × Bool, spec_PlayPairMoves.f 2000000 s l = some r ∧ impl_PlayPairMoves.f 2000000 s l = some r from h.elim fun r h => fin r h.1 h.2
  unfold spec_PlayPairMoves.f impl_PlayPairMoves.f
  rcases pairCases s hs with ⟨bs, rfl, h1, h2, h⟩ | h
  · obtain ⟨g1, g2⟩ := h 2000000 (by omega)
    rw [g1, g2]
    simp only [Option.bind_some, if_true, spec_PlayPairMoves.j0, impl_PlayPairMoves.j0, decide_eq_true_eq]
    by_cases q : (l.length : Int) > 2000
    · exact ⟨(⟨#[]⟩, false), by rw [if_pos q], by rw [if_pos q]⟩
    · rw [if_neg q, if_neg q]
      exact ⟨playP bs l, specPlay_l0 (by omega) l _ 0 bs h1 (by omega) (by simp) (by omega), implPlay_l0 (by omega) l _ 0 bs h1 (by omega) (by simp) (by omega)⟩
  · obtain ⟨g1, g2⟩ := h 2000000 (by omega)
    rw [g1, g2]
    simp only [Option.bind_some, Bool.false_eq_true, if_false, spec_PlayPairMoves.j0, impl_PlayPairMoves.j0, if_true]
    exact ⟨_, rfl, rfl⟩

end Go.Proofs.YtgmmplcijhibgaaDoor.Pure
