/- The law FnExactTimesMoved, told over plain functions, holds for all arguments; no condition beyond the kinds of the numbers and the texts' sizes that any argument has. -/
import Derived.Test.YtaohdkpboajbhaaDoorAx1
import Derived.Test.YtaohdkpboajbhaaDoorAx5
import Derived.Test.YtaohdkpboajbhaaDoorAx8
import Derived.Test.YtaohdkpboajbhaaDoorAx9
import Derived.Test.YtaohdkpboajbhaaDoorIntS
set_option linter.unusedVariables false
set_option linter.unusedSimpArgs false
namespace Go.Proofs.YtaohdkpboajbhaaDoor.Pure
open Go.RowKit Go.Proofs.YtaohdkpboajbhaaDoor.A Go.Proofs.YtaohdkpboajbhaaDoorW.PrintWords Go.Proofs.YtaohdkpboajbhaaDoorW.PrintLast Go.Proofs.YtaohdkpboajbhaaDoorW.PrintMore

def hv (x i : Int) : Int := wrap64 ((shr .i64 x i) - (shr .i64 x (wrap64 (i + 1))))
def dv (lo hi : Int) (i : Nat) : Int := wrap64 (hv hi (i : Int) - hv lo (i : Int))
theorem riHalved {x : Int} {i : Nat} (h : i ≤ 1000) : spec_riHalved.f x (i : Int) = some (hv x (i : Int)) := by
  unfold spec_riHalved.f
  rw [if_pos (by omega), if_pos (by rw [w64 (by omega) (by omega)]; omega)]; rfl
theorem changes {x : Int} {i : Nat} (h : i ≤ 1000) : impl_changes.f x (i : Int) = some (hv x (i : Int)) := by
  unfold impl_changes.f
  rw [if_pos (by omega), if_pos (by rw [w64 (by omega) (by omega)]; omega)]; rfl
theorem specTimes_l0 {lo hi : Int} {n : Nat} (hn : n ≤ 1000) (d : Nat) : ∀ (k i : Nat) (x : List Int), i + d = n → x.length = n → d < k →
    spec_TimesMoved.l0 k lo hi x (n : Int) (i : Int) = some (x.take i ++ (List.range' i d).map (dv lo hi), true) := by
  induction d with
  | zero =>
    intro k i x hi' hx hk
    obtain ⟨k, rfl⟩ : ∃ m, k = m + 1 := ⟨k - 1, by omega⟩
    rw [spec_TimesMoved.l0, if_neg (by omega), List.take_of_length_le (by omega)]; simp
  | succ d ih =>
    intro k i x hi' hx hk
    obtain ⟨k, rfl⟩ : ∃ m, k = m + 1 := ⟨k - 1, by omega⟩
    rw [spec_TimesMoved.l0, if_pos (by omega), riHalved (by omega), Option.bind_some, riHalved (by omega), Option.bind_some, if_pos (by omega), if_pos (by omega), w64 (x := (i : Int) + 1) (by omega) (by omega), show ((i : Int) + 1) = ((i + 1 : Nat) : Int) by omega, Int.toNat_natCast]
    rw [ih k (i + 1) _ (by omega) (by simpa using hx) (by omega), List.range'_succ, List.map_cons, List.take_add_one, List.take_set_of_le (Nat.le_refl i), List.getElem?_set_self (by omega)]
    simp [dv]
theorem implTimes_l0 {lo hi : Int} {n : Nat} (hn : n ≤ 1000) (d : Nat) : ∀ (k i : Nat) (x : List Int), i + d = n → x.length = i → d < k →
    impl_TimesMoved.l0 k lo hi x (n : Int) (i : Int) = some (x ++ (List.range' i d).map (dv lo hi), true) := by
  induction d with
  | zero =>
    intro k i x hi' hx hk
    obtain ⟨k, rfl⟩ : ∃ m, k = m + 1 := ⟨k - 1, by omega⟩
    rw [impl_TimesMoved.l0, if_neg (by omega)]; simp
  | succ d ih =>
    intro k i x hi' hx hk
    obtain ⟨k, rfl⟩ : ∃ m, k = m + 1 := ⟨k - 1, by omega⟩
    rw [impl_TimesMoved.l0, if_pos (by omega), changes (by omega), Option.bind_some, changes (by omega), Option.bind_some, if_pos (by omega), w64 (x := (i : Int) + 1) (by omega) (by omega), show ((i : Int) + 1) = ((i + 1 : Nat) : Int) by omega]
    rw [ih k (i + 1) _ (by omega) (by simp; omega) (by omega), List.range'_succ, List.map_cons]
    simp [dv]
theorem FnExactTimesMoved : laws_FnExactTimesMoved.Pure := by
  intro s t hs ht
  refine ⟨100, ?_⟩
  unfold laws_FnExactTimesMoved.f
  by_cases hbig : (s.size : Int) > 1048576
  · rw [if_pos hbig]
  rw [if_neg hbig]
  by_cases hbig2 : (t.size : Int) > 1048576
  · rw [if_pos hbig2]
  rw [if_neg hbig2]
  suffices h : ∃ r : List Int × Bool, r.1.length ≤ 40 ∧ (∀ k, 90 < k → spec_TimesMoved.f k s t = some r ∧ impl_TimesMoved.f k s t = some r) by
    obtain ⟨r, hr, h⟩ := h
    have hE : ∀ k, 41 < k → laws_eqIntS.f k r.1 r.1 = some true := fun k hk => by rw [eqIntS (by omega) (by omega)]; simp
    rw [(h 100 (by omega)).1, (h 100 (by omega)).2]
    simp only [Option.bind_some, hE 100 (by omega), if_true, bne_self_eq_false]
    rw [laws_FnExactTimesMoved.j0, markIntS (by omega) (by omega)]
    simp only [Option.bind_some, Bool.false_eq_true, if_false]
    rw [heldIntS (by omega) (by omega), (h 99 (by omega)).2]
    have hn : ¬ (1 + (r.1.length : Int)) < 0 := by omega
    simp only [Option.bind_some, hn, if_false, if_true, hE 99 (by omega), bne_self_eq_false]
    rw [laws_FnExactTimesMoved.j1, heldIntS (by omega) (by omega)]
    simp [hn]
  rcases twoCases s t hs ht with ⟨a, b, rfl, rfl, ha, hb⟩ | h
  · refine ⟨((List.range' 0 a.length).map (dv (mn (M.num a : Int) (M.num b : Int)) (mx (M.num a : Int) (M.num b : Int))), true), by simp; omega, fun k hk => ?_⟩
    obtain ⟨h1, h2⟩ := two_sb (k := k) ha (b := b) (by omega) (by omega)
    unfold spec_TimesMoved.f impl_TimesMoved.f
    rw [h1, h2, hb, riNumber (by omega) (by omega), riNumber (by omega) (by omega), number (by omega) (by omega), number (by omega) (by omega)]
    have e1 : spec_l1Least.f (M.num a : Int) (M.num b : Int) = some (mn (M.num a : Int) (M.num b : Int)) := by
      unfold spec_l1Least.f mn; split <;> split <;> first | rfl | (congr 1; omega)
    have e2 : spec_l1Most.f (M.num a : Int) (M.num b : Int) = some (mx (M.num a : Int) (M.num b : Int)) := by
      unfold spec_l1Most.f mx; split <;> split <;> first | rfl | (congr 1; omega)
    simp only [beq_self_eq_true, Option.bind_some, if_true, e1, e2, sb_size, Int.toNat_natCast]
    rw [if_pos (by omega), if_pos (by omega), List.length_replicate]
    have g1 := specTimes_l0 (lo := mn (M.num a : Int) (M.num b : Int)) (hi := mx (M.num a : Int) (M.num b : Int)) (n := a.length) (by omega) a.length k 0 (List.replicate a.length 0) (by omega) (by simp) (by omega)
    have g2 := implTimes_l0 (lo := mn (M.num a : Int) (M.num b : Int)) (hi := mx (M.num a : Int) (M.num b : Int)) (n := a.length) (by omega) a.length k 0 [] (by omega) (by simp) (by omega)
    exact ⟨by simpa using g1, by simpa using g2⟩
  · refine ⟨([], false), by simp, fun k hk => ?_⟩
    obtain ⟨h1, h2⟩ := h k (by omega)
    unfold spec_TimesMoved.f impl_TimesMoved.f
    rw [h1, h2]
    simp

end Go.Proofs.YtaohdkpboajbhaaDoor.Pure
