/- The law FnExactStatesBetween, told over plain functions, holds for all arguments; no condition beyond the kinds of the numbers and the texts' sizes that any argument has. -/
import Derived.Test.YtgmmplcijhibgaaDoorAx5
import Derived.Test.YtgmmplcijhibgaaDoorAx6
import Derived.Test.YtgmmplcijhibgaaDoorAx7
import Derived.Test.YtgmmplcijhibgaaDoorWay
import Derived.Test.YtgmmplcijhibgaaDoorStrS
set_option linter.unusedVariables false
set_option linter.unusedSimpArgs false
namespace Go.Proofs.YtgmmplcijhibgaaDoor.Pure
open Go.RowKit Go.Proofs.YtgmmplcijhibgaaDoor.A Go.Proofs.YtgmmplcijhibgaaDoorW.PrintWords Go.Proofs.YtgmmplcijhibgaaDoorW.PrintLast Go.Proofs.YtgmmplcijhibgaaDoorW.PrintMore

def betL : Nat → Nat → Nat → Nat → List ByteArray
  | _, 0, _, _ => []
  | r, d + 1, n, m => sb (M.st r (nxt n m)) :: betL r d (nxt n m) m
theorem betL_length (r d n m : Nat) : (betL r d n m).length = d := by
  induction d generalizing n with
  | zero => rfl
  | succ d ih => simp [betL, ih]
theorem specBet_l0 {r m : Nat} (hr : r ≤ 40) (hm : m < 2 ^ r) (d : Nat) : ∀ (k n : Nat) (acc : List ByteArray), n < 2 ^ r → dst n m = d → acc.length + d ≤ 2000000 → d + 70 < k →
    spec_StatesBetween.l0 k (sb (M.st r n)) (sb (M.st r m)) acc = some (acc ++ betL r d n m, true) := by
  induction d with
  | zero =>
    intro k n acc hn hd hl hk
    obtain ⟨k, rfl⟩ : ∃ m, k = m + 1 := ⟨k - 1, by omega⟩
    rw [spec_StatesBetween.l0, if_pos ((st_eq hn hm).2 (dst_zero.1 hd))]; simp [betL]
  | succ d ih =>
    intro k n acc hn hd hl hk
    obtain ⟨k, rfl⟩ : ∃ m, k = m + 1 := ⟨k - 1, by omega⟩
    have hne : n ≠ m := fun h => by have := dst_zero.2 h; omega
    rw [spec_StatesBetween.l0, if_neg (fun h => hne ((st_eq hn hm).1 h)), riNext_st hr hn hm hne (by omega), Option.bind_some, if_pos (by omega)]
    rw [ih k _ _ (nxt_lt hn hm hne) (dst_nxt hd) (by simp; omega) (by omega), betL]; simp
theorem implBet_l0 {r m : Nat} (hr : r ≤ 40) (hm : m < 2 ^ r) {x : ByteArray} (hx : x.size = r) (d : Nat) : ∀ (k n : Nat) (acc : List ByteArray), n < 2 ^ r → dst n m = d → acc.length + d ≤ 2000000 → d + 70 < k →
    impl_StatesBetween.l0 k x acc (n : Int) (m : Int) = some (acc ++ betL r d n m, true) := by
  have hp : 2 ^ r ≤ 2 ^ 40 := Nat.pow_le_pow_right (by decide) hr
  induction d with
  | zero =>
    intro k n acc hn hd hl hk
    obtain ⟨k, rfl⟩ : ∃ m, k = m + 1 := ⟨k - 1, by omega⟩
    have := dst_zero.1 hd
    rw [impl_StatesBetween.l0, if_pos (by omega)]; simp [betL]
  | succ d ih =>
    intro k n acc hn hd hl hk
    obtain ⟨k, rfl⟩ : ∃ m, k = m + 1 := ⟨k - 1, by omega⟩
    have hne : n ≠ m := fun h => by have := dst_zero.2 h; omega
    have hx2 := nxt_lt hn hm hne
    rw [impl_StatesBetween.l0, if_neg (by omega), next (by omega) (by omega) hne (by omega), Option.bind_some, hx]
    simp only
    rw [state hr (by omega) (by omega), Option.bind_some, if_pos (by omega)]
    rw [ih k _ _ hx2 (dst_nxt hd) (by simp; omega) (by omega), betL]; simp
theorem specSB {k : Nat} {s t : ByteArray} {n m d Z : Int} (h1 : spec_riTwo.f k s t = some true) (h2 : spec_riNumber.f k s = some n) (h3 : spec_riNumber.f k t = some m) (h4 : spec_l1Abs.f (wrap64 (n - m)) = some d) (h5 : wrap64 (d + 1) = Z) :
    spec_StatesBetween.f k s t = spec_StatesBetween.j0 k s t (decide (Z > 2000)) := by
  unfold spec_StatesBetween.f
  rw [h1, Option.bind_some, if_pos rfl, h2, Option.bind_some, h3, Option.bind_some, h4, Option.bind_some, h5]
theorem implSB {k : Nat} {s t : ByteArray} {n m d Z : Int} (h1 : impl_alike.f s t = some true) (h2 : impl_number.f k s = some n) (h3 : impl_number.f k t = some m) (h4 : impl_apart.f n m = some d) (h5 : wrap64 (d + 1) = Z) :
    impl_StatesBetween.f k s t = impl_StatesBetween.j0 k s t (decide (Z > 2000)) := by
  unfold impl_StatesBetween.f
  rw [h1, Option.bind_some, if_pos rfl, h2, Option.bind_some, h3, Option.bind_some, h4, Option.bind_some, h5]
theorem bothBet (s t : ByteArray) (hs : s.size ≤ 140737488351232) (ht : t.size ≤ 140737488351232) : ∃ r : List ByteArray × Bool, r.1.length ≤ 2001 ∧ (∀ k, 3000 < k → spec_StatesBetween.f k s t = some r ∧ impl_StatesBetween.f k s t = some r) := by
  rcases twoCases s t hs ht with ⟨a, b, rfl, rfl, ha, hb⟩ | h
  · have na := num_small (bs := a) (by omega)
    have nb := num_small (bs := b) (by omega)
    have la := M.num_lt a
    have lb := M.num_lt b
    rw [hb] at lb
    obtain ⟨d1, d2⟩ := apart_dst na nb
    have hd : dst (M.num a) (M.num b) < 2 ^ 40 := by unfold dst; split <;> omega
    have hs1 : ∀ k, 90 < k → spec_StatesBetween.f k (sb a) (sb b) = spec_StatesBetween.j0 k (sb a) (sb b) (decide (((dst (M.num a) (M.num b) : Nat) : Int) + 1 > 2000)) := fun k hk => by
      obtain ⟨h1, h2⟩ := two_sb (k := k) ha (b := b) (by omega) (by omega)
      rw [hb, beq_self_eq_true] at h1
      exact specSB h1 (riNumber (by omega) (by omega)) (riNumber (by omega) (by omega)) d2 (w64 (by omega) (by omega))
    have hs2 : ∀ k, 90 < k → impl_StatesBetween.f k (sb a) (sb b) = impl_StatesBetween.j0 k (sb a) (sb b) (decide (((dst (M.num a) (M.num b) : Nat) : Int) + 1 > 2000)) := fun k hk => by
      obtain ⟨h1, h2⟩ := two_sb (k := k) ha (b := b) (by omega) (by omega)
      rw [hb, beq_self_eq_true] at h2
      exact implSB h2 (number (by omega) (by omega)) (number (by omega) (by omega)) d1 (w64 (by omega) (by omega))
    by_cases q : dst (M.num a) (M.num b) + 1 > 2000
    · refine ⟨([], false), by simp, fun k hk => ?_⟩
      obtain ⟨k, rfl⟩ : ∃ m, k = m + 1 := ⟨k - 1, by omega⟩
      rw [hs1 (k + 1) (by omega), hs2 (k + 1) (by omega), decide_eq_true (by omega), spec_StatesBetween.j0, impl_StatesBetween.j0, if_pos rfl, if_pos rfl]
      exact ⟨rfl, rfl⟩
    · refine ⟨([sb a] ++ betL a.length (dst (M.num a) (M.num b)) (M.num a) (M.num b), true), by simp [betL_length]; omega, fun k hk => ?_⟩
      obtain ⟨k, rfl⟩ : ∃ m, k = m + 1 := ⟨k - 1, by omega⟩
      rw [hs1 (k + 1) (by omega), hs2 (k + 1) (by omega), decide_eq_false (by omega), spec_StatesBetween.j0, impl_StatesBetween.j0, if_neg (by decide), if_neg (by decide)]
      rw [number (by omega) (by omega), number (by omega) (by omega)]
      simp only [Option.bind_some]
      have g1 := specBet_l0 (r := a.length) (by omega) lb (dst (M.num a) (M.num b)) k (M.num a) [sb a] la rfl (by simp; omega) (by omega)
      have g2 := implBet_l0 (r := a.length) (by omega) lb (x := sb a) (sb_size a) (dst (M.num a) (M.num b)) k (M.num a) [sb a] la rfl (by simp; omega) (by omega)
      have ea := M.st_num a
      have eb := M.st_num b
      rw [hb] at eb
      rw [ea, eb] at g1
      exact ⟨g1, g2⟩
  · refine ⟨([], false), by simp, fun k hk => ?_⟩
    obtain ⟨k, rfl⟩ : ∃ m, k = m + 1 := ⟨k - 1, by omega⟩
    obtain ⟨h1, h2⟩ := h (k + 1) (by omega)
    unfold spec_StatesBetween.f impl_StatesBetween.f
    rw [h1, h2]
    exact ⟨rfl, rfl⟩
theorem FnExactStatesBetween : laws_FnExactStatesBetween.Pure := by
  intro s t hs ht
  refine ⟨4998 + 1 + 1, ?_⟩
  generalize h9 : (4998 : Nat) = K
  have hK : 4997 < K := by omega
  clear h9
  unfold laws_FnExactStatesBetween.f
  by_cases hbig : (s.size : Int) > 1048576
  · rw [if_pos hbig]
  rw [if_neg hbig]
  by_cases hbig2 : (t.size : Int) > 1048576
  · rw [if_pos hbig2]
  rw [if_neg hbig2]
  obtain ⟨r, hr, h⟩ := bothBet s t hs ht
  have hE : ∀ k, 2001 < k → laws_eqStringS.f k r.1 r.1 = some true := fun k hk => by rw [eqStringS (by omega) (by omega)]; simp
  rw [(h (K + 1 + 1) (by omega)).1, (h (K + 1 + 1) (by omega)).2]
  simp only [Option.bind_some, hE (K + 1 + 1) (by omega), if_true, bne_self_eq_false]
  rw [laws_FnExactStatesBetween.j0, markStringS (by omega) (by omega)]
  simp only [Option.bind_some, Bool.false_eq_true, if_false]
  rw [heldStringS (by omega) (by omega), (h (K + 1) (by omega)).2]
  have hn : ¬ (1 + (r.1.length : Int)) < 0 := by omega
  simp only [Option.bind_some, hn, if_false, if_true, hE (K + 1) (by omega), bne_self_eq_false]
  rw [laws_FnExactStatesBetween.j1, heldStringS (by omega) (by omega)]
  simp [hn]

end Go.Proofs.YtgmmplcijhibgaaDoor.Pure
