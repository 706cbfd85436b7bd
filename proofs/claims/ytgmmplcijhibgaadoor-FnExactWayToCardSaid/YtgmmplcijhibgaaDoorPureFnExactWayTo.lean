/- The law FnExactWayTo, told over plain functions, holds for all arguments; no condition beyond the kinds of the numbers and the texts' sizes that any argument has. -/
import Derived.Test.YtgmmplcijhibgaaDoorAx3
import Derived.Test.YtgmmplcijhibgaaDoorAx7
import Derived.Test.YtgmmplcijhibgaaDoorAx8
import Derived.Test.YtgmmplcijhibgaaDoorWay
set_option linter.unusedVariables false
set_option linter.unusedSimpArgs false
namespace Go.Proofs.YtgmmplcijhibgaaDoor.Pure
open Go.RowKit Go.Proofs.YtgmmplcijhibgaaDoor.A Go.Proofs.YtgmmplcijhibgaaDoorW.PrintWords Go.Proofs.YtgmmplcijhibgaaDoorW.PrintLast Go.Proofs.YtgmmplcijhibgaaDoorW.PrintMore

def wayL : Nat → Nat → Nat → List Int
  | 0, _, _ => []
  | d + 1, n, m => (rng n m : Int) :: wayL d (nxt n m) m
theorem wayL_length (d n m : Nat) : (wayL d n m).length = d := by
  induction d generalizing n with
  | zero => rfl
  | succ d ih => simp [wayL, ih]
theorem specWay_l0 {r m : Nat} (hr : r ≤ 40) (hm : m < 2 ^ r) (d : Nat) : ∀ (k n : Nat) (acc : List Int), n < 2 ^ r → dst n m = d → acc.length + d ≤ 2000000 → d + 70 < k →
    spec_WayTo.l0 k (sb (M.st r n)) (sb (M.st r m)) acc = some (acc ++ wayL d n m, true) := by
  induction d with
  | zero =>
    intro k n acc hn hd hl hk
    obtain ⟨k, rfl⟩ : ∃ m, k = m + 1 := ⟨k - 1, by omega⟩
    rw [spec_WayTo.l0, if_pos ((st_eq hn hm).2 (dst_zero.1 hd))]; simp [wayL]
  | succ d ih =>
    intro k n acc hn hd hl hk
    obtain ⟨k, rfl⟩ : ∃ m, k = m + 1 := ⟨k - 1, by omega⟩
    have hne : n ≠ m := fun h => by have := dst_zero.2 h; omega
    rw [spec_WayTo.l0, if_neg (fun h => hne ((st_eq hn hm).1 h)), riNext_st hr hn hm hne (by omega), Option.bind_some, riDiffers_st hn hm hne (by omega), Option.bind_some, if_pos (by omega)]
    rw [ih k _ _ (nxt_lt hn hm hne) (dst_nxt hd) (by simp; omega) (by omega), wayL]; simp
theorem implWay_l0 {r m : Nat} (hr : r ≤ 40) (hm : m < 2 ^ r) (d : Nat) : ∀ (k n : Nat) (acc : List Int), n < 2 ^ r → dst n m = d → acc.length + d ≤ 2000000 → d + 70 < k →
    impl_WayTo.l0 k acc (n : Int) (m : Int) = some (acc ++ wayL d n m, true) := by
  have hp : 2 ^ r ≤ 2 ^ 40 := Nat.pow_le_pow_right (by decide) hr
  induction d with
  | zero =>
    intro k n acc hn hd hl hk
    obtain ⟨k, rfl⟩ : ∃ m, k = m + 1 := ⟨k - 1, by omega⟩
    have := dst_zero.1 hd
    rw [impl_WayTo.l0, if_pos (by omega)]; simp [wayL]
  | succ d ih =>
    intro k n acc hn hd hl hk
    obtain ⟨k, rfl⟩ : ∃ m, k = m + 1 := ⟨k - 1, by omega⟩
    have hne : n ≠ m := fun h => by have := dst_zero.2 h; omega
    rw [impl_WayTo.l0, if_neg (by omega), next (by omega) (by omega) hne (by omega), Option.bind_some, if_pos (by omega)]
    simp only
    rw [ih k _ _ (nxt_lt hn hm hne) (dst_nxt hd) (by simp; omega) (by omega), wayL]; simp
theorem FnExactWayTo : laws_FnExactWayTo.Pure := by
  intro s t hs ht
  refine ⟨4000, ?_⟩
  unfold laws_FnExactWayTo.f
  by_cases hbig : (s.size : Int) > 1048576
  · rw [if_pos hbig]
  rw [if_neg hbig]
  by_cases hbig2 : (t.size : Int) > 1048576
  · rw [if_pos hbig2]
  rw [if_neg hbig2]
  suffices h : ∃ r : List Int × Bool, r.1.length ≤ 2000 ∧ (∀ k, 3000 < k → spec_WayTo.f k s t = some r ∧ impl_WayTo.f k s t = some r) by
    obtain ⟨r, hr, h⟩ := h
    have hE : ∀ k, 2001 < k → laws_eqIntS.f k r.1 r.1 = some true := fun k hk => by rw [eqIntS (by omega) (by omega)]; simp
    rw [(h 4000 (by omega)).1, (h 4000 (by omega)).2]
    simp only [Option.bind_some, hE 4000 (by omega), if_true, bne_self_eq_false]
    rw [laws_FnExactWayTo.j0, markIntS (by omega) (by omega)]
    simp only [Option.bind_some, Bool.false_eq_true, if_false]
    rw [heldIntS (by omega) (by omega), (h 3999 (by omega)).2]
    have hn : ¬ (1 + (r.1.length : Int)) < 0 := by omega
    simp only [Option.bind_some, hn, if_false, if_true, hE 3999 (by omega), bne_self_eq_false]
    rw [laws_FnExactWayTo.j1, heldIntS (by omega) (by omega)]
    simp [hn]
  rcases twoCases s t hs ht with ⟨a, b, rfl, rfl, ha, hb⟩ | h
  · have na := num_small (bs := a) (by omega)
    have nb := num_small (bs := b) (by omega)
    have la := M.num_lt a
    have lb := M.num_lt b
    rw [hb] at lb
    obtain ⟨d1, d2⟩ := apart_dst na nb
    by_cases q : dst (M.num a) (M.num b) > 2000
    · refine ⟨([], false), by simp, fun k hk => ?_⟩
      obtain ⟨k, rfl⟩ : ∃ m, k = m + 1 := ⟨k - 1, by omega⟩
      obtain ⟨h1, h2⟩ := two_sb (k := k + 1) ha (b := b) (by omega) (by omega)
      unfold spec_WayTo.f impl_WayTo.f
      rw [h1, h2, hb, riNumber (by omega) (by omega), riNumber (by omega) (by omega), number (by omega) (by omega), number (by omega) (by omega)]
      have q' : ((dst (M.num a) (M.num b) : Nat) : Int) > 2000 := by omega
      simp only [beq_self_eq_true, Option.bind_some, if_true, d1, d2, decide_eq_true q', spec_WayTo.j0, impl_WayTo.j0]
      exact ⟨trivial, trivial⟩
    · refine ⟨(wayL (dst (M.num a) (M.num b)) (M.num a) (M.num b), true), by show (wayL _ _ _).length ≤ 2000; rw [wayL_length]; omega, fun k hk => ?_⟩
      obtain ⟨k, rfl⟩ : ∃ m, k = m + 1 := ⟨k - 1, by omega⟩
      obtain ⟨h1, h2⟩ := two_sb (k := k + 1) ha (b := b) (by omega) (by omega)
      unfold spec_WayTo.f impl_WayTo.f
      rw [h1, h2, hb, riNumber (by omega) (by omega), riNumber (by omega) (by omega), number (by omega) (by omega), number (by omega) (by omega)]
      have q' : ¬ ((dst (M.num a) (M.num b) : Nat) : Int) > 2000 := by omega
      simp only [beq_self_eq_true, Option.bind_some, if_true, d1, d2, decide_eq_false q', spec_WayTo.j0, impl_WayTo.j0, Bool.false_eq_true, if_false]
      rw [number (by omega) (by omega), number (by omega) (by omega)]
      simp only [Option.bind_some]
      have g1 := specWay_l0 (r := a.length) (by omega) lb (dst (M.num a) (M.num b)) k (M.num a) [] la rfl (by simp; omega) (by omega)
      have g2 := implWay_l0 (r := a.length) (by omega) lb (dst (M.num a) (M.num b)) k (M.num a) [] la rfl (by simp; omega) (by omega)
      have ea := M.st_num a
      have eb := M.st_num b
      rw [hb] at eb
      rw [ea, eb] at g1
      exact ⟨g1, g2⟩
  · refine ⟨([], false), by simp, fun k hk => ?_⟩
    obtain ⟨k, rfl⟩ : ∃ m, k = m + 1 := ⟨k - 1, by omega⟩
    obtain ⟨h1, h2⟩ := h (k + 1) (by omega)
    unfold spec_WayTo.f impl_WayTo.f
    rw [h1, h2]
    exact ⟨rfl, rfl⟩

end Go.Proofs.YtgmmplcijhibgaaDoor.Pure
