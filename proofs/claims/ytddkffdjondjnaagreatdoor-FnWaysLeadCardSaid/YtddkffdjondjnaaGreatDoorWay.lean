-- written by a program of this session's over the kit's print (xp.py)
import Derived.Test.YtddkffdjondjnaaGreatDoorAx1
import Derived.Test.YtddkffdjondjnaaGreatDoorAx2
import Derived.Test.YtddkffdjondjnaaGreatDoorAx3
import Derived.Test.YtddkffdjondjnaaGreatDoorAx4
import Derived.Test.YtddkffdjondjnaaGreatDoorAx5
import Derived.Test.YtddkffdjondjnaaGreatDoorNext
set_option linter.unusedVariables false
set_option linter.unusedSimpArgs false
namespace Go.Proofs.YtddkffdjondjnaaGreatDoor.Pure
open Go.RowKit Go.Proofs.YtddkffdjondjnaaGreatDoor.A Go.Proofs.YtddkffdjondjnaaGreatDoorW.PrintWords Go.Proofs.YtddkffdjondjnaaGreatDoorW.PrintLast Go.Proofs.YtddkffdjondjnaaGreatDoorW.PrintMore

def dst (n m : Nat) : Nat := if n < m then m - n else n - m
theorem dst_zero {n m : Nat} : dst n m = 0 ↔ n = m := by unfold dst; split <;> omega
theorem dst_nxt {n m d : Nat} (h : dst n m = d + 1) : dst (nxt n m) m = d := by
  unfold dst at h ⊢; unfold nxt
  by_cases q : n < m
  · rw [if_pos q] at h ⊢
    by_cases q2 : n + 1 < m
    · rw [if_pos q2]; omega
    · rw [if_neg q2]; omega
  · rw [if_neg q] at h ⊢
    by_cases q2 : n - 1 < m
    · rw [if_pos q2]; omega
    · rw [if_neg q2]; omega
theorem apart_dst {n m : Nat} (hn : n < 2 ^ 40) (hm : m < 2 ^ 40) : impl_apart.f (n : Int) (m : Int) = some ((dst n m : Nat) : Int) ∧ spec_l1Abs.f (wrap64 ((n : Int) - (m : Int))) = some ((dst n m : Nat) : Int) := by
  unfold spec_l1Abs.f spec_l1Most.f impl_apart.f mx dst
  rw [w64 (x := (n : Int) - (m : Int)) (by omega) (by omega), w64 (x := -((n : Int) - (m : Int))) (by omega) (by omega), w64 (x := (m : Int) - (n : Int)) (by omega) (by omega)]
  by_cases q : n < m
  · rw [if_pos (by omega), if_pos q, if_neg (by omega)]
    exact ⟨by congr 1; omega, by simp only [Option.bind_some]; congr 1; omega⟩
  · rw [if_neg (by omega), if_neg q]
    refine ⟨by congr 1; omega, ?_⟩
    by_cases q2 : m < n
    · rw [if_pos (by omega)]; simp only [Option.bind_some]; congr 1; omega
    · rw [if_neg (by omega)]; simp only [Option.bind_some]; congr 1; omega
theorem st_eq {n m r : Nat} (hn : n < 2 ^ r) (hm : m < 2 ^ r) : (sb (M.st r n)).toList = (sb (M.st r m)).toList ↔ n = m := by
  constructor
  · intro h
    rw [sb_toList, sb_toList] at h
    have := congrArg M.num (map_sg_inj h)
    rwa [M.num_st hn, M.num_st hm] at this
  · rintro rfl; rfl
theorem riNext_st {n m r k : Nat} (hr : r ≤ 40) (hn : n < 2 ^ r) (hm : m < 2 ^ r) (hne : n ≠ m) (hk : 62 < k) : spec_riNext.f k (sb (M.st r n)) (sb (M.st r m)) = some (sb (M.st r (nxt n m))) := by
  have := riNext (a := M.st r n) (b := M.st r m) (k := k) (by rw [M.st_length]; exact hr) (by rw [M.st_length, M.st_length]) (fun h => by
    have := congrArg M.num h
    rw [M.num_st hn, M.num_st hm] at this; exact hne this) hk
  rw [M.num_st hn, M.num_st hm, flip_next hn hm hne] at this
  exact this
theorem riDiffers_st {n m r k : Nat} (hn : n < 2 ^ r) (hm : m < 2 ^ r) (hne : n ≠ m) (hk : r ≤ k) : spec_riDiffers.f k (sb (M.st r n)) (sb (M.st r (nxt n m))) = some (rng n m : Int) := by
  have h := rng_lt hn hm hne
  have := riDiffers (bs := M.st r n) (j := rng n m) (k := k) (by rw [M.st_length]; exact h) (by omega)
  rw [flip_next hn hm hne] at this
  exact this

def wayL : Nat → Nat → Nat → List Int
  | 0, _, _ => []
  | d + 1, n, m => (rng n m : Int) :: wayL d (nxt n m) m
theorem wayL_length (d n m : Nat) : (wayL d n m).length = d := by
  induction d generalizing n with
  | zero => rfl
  | succ d ih => simp [wayL, ih]
theorem specWay_l0 {r m : Nat} (hr : r ≤ 40) (hm : m < 2 ^ r) (d : Nat) : ∀ (k n : Nat) (acc : List Int), n < 2 ^ r → dst n m = d → acc.length + d ≤ 2000000 → d + 70 < k →
    spec_WayTo.l0 k (sb (M.st r n)) (sb (M.st r m)) acc = some (acc ++ wayL d n m, true) := by
  induction d with
  | zero =>
    intro k n acc hn hd hl hk
    obtain ⟨k, rfl⟩ : ∃ m, k = m + 1 := ⟨k - 1, by omega⟩
    rw [spec_WayTo.l0, if_pos ((st_eq hn hm).2 (dst_zero.1 hd))]; simp [wayL]
  | succ d ih =>
    intro k n acc hn hd hl hk
    obtain ⟨k, rfl⟩ : ∃ m, k = m + 1 := ⟨k - 1, by omega⟩
    have hne : n ≠ m := fun h => by have := dst_zero.2 h; omega
    rw [spec_WayTo.l0, if_neg (fun h => hne ((st_eq hn hm).1 h)), riNext_st hr hn hm hne (by omega), Option.bind_some, riDiffers_st hn hm hne (by omega), Option.bind_some, if_pos (by omega)]
    rw [ih k _ _ (nxt_lt hn hm hne) (dst_nxt hd) (by simp; omega) (by omega), wayL]; simp
theorem implWay_l0 {r m : Nat} (hr : r ≤ 40) (hm : m < 2 ^ r) (d : Nat) : ∀ (k n : Nat) (acc : List Int), n < 2 ^ r → dst n m = d → acc.length + d ≤ 2000000 → d + 70 < k →
    impl_WayTo.l0 k acc (n : Int) (m : Int) = some (acc ++ wayL d n m, true) := by
  have hp : 2 ^ r ≤ 2 ^ 40 := Nat.pow_le_pow_right (by decide) hr
  induction d with
  | zero =>
    intro k n acc hn hd hl hk
    obtain ⟨k, rfl⟩ : ∃ m, k = m + 1 := ⟨k - 1, by omega⟩
    have := dst_zero.1 hd
    rw [impl_WayTo.l0, if_pos (by omega)]; simp [wayL]
  | succ d ih =>
    intro k n acc hn hd hl hk
    obtain ⟨k, rfl⟩ : ∃ m, k = m + 1 := ⟨k - 1, by omega⟩
    have hne : n ≠ m := fun h => by have := dst_zero.2 h; omega
    rw [impl_WayTo.l0, if_neg (by omega), next (by omega) (by omega) hne (by omega), Option.bind_some, if_pos (by omega)]
    simp only
    rw [ih k _ _ (nxt_lt hn hm hne) (dst_nxt hd) (by simp; omega) (by omega), wayL]; simp

def betL : Nat → Nat → Nat → Nat → List ByteArray
  | _, 0, _, _ => []
  | r, d + 1, n, m => sb (M.st r (nxt n m)) :: betL r d (nxt n m) m
theorem betL_length (r d n m : Nat) : (betL r d n m).length = d := by
  induction d generalizing n with
  | zero => rfl
  | succ d ih => simp [betL, ih]
theorem specBet_l0 {r m : Nat} (hr : r ≤ 40) (hm : m < 2 ^ r) (d : Nat) : ∀ (k n : Nat) (acc : List ByteArray), n < 2 ^ r → dst n m = d → acc.length + d ≤ 2000000 → d + 70 < k →
    spec_StatesBetween.l0 k (sb (M.st r n)) (sb (M.st r m)) acc = some (acc ++ betL r d n m, true) := by
  induction d with
  | zero =>
    intro k n acc hn hd hl hk
    obtain ⟨k, rfl⟩ : ∃ m, k = m + 1 := ⟨k - 1, by omega⟩
    rw [spec_StatesBetween.l0, if_pos ((st_eq hn hm).2 (dst_zero.1 hd))]; simp [betL]
  | succ d ih =>
    intro k n acc hn hd hl hk
    obtain ⟨k, rfl⟩ : ∃ m, k = m + 1 := ⟨k - 1, by omega⟩
    have hne : n ≠ m := fun h => by have := dst_zero.2 h; omega
    rw [spec_StatesBetween.l0, if_neg (fun h => hne ((st_eq hn hm).1 h)), riNext_st hr hn hm hne (by omega), Option.bind_some, if_pos (by omega)]
    rw [ih k _ _ (nxt_lt hn hm hne) (dst_nxt hd) (by simp; omega) (by omega), betL]; simp
theorem implBet_l0 {r m : Nat} (hr : r ≤ 40) (hm : m < 2 ^ r) {x : ByteArray} (hx : x.size = r) (d : Nat) : ∀ (k n : Nat) (acc : List ByteArray), n < 2 ^ r → dst n m = d → acc.length + d ≤ 2000000 → d + 70 < k →
    impl_StatesBetween.l0 k x acc (n : Int) (m : Int) = some (acc ++ betL r d n m, true) := by
  have hp : 2 ^ r ≤ 2 ^ 40 := Nat.pow_le_pow_right (by decide) hr
  induction d with
  | zero =>
    intro k n acc hn hd hl hk
    obtain ⟨k, rfl⟩ : ∃ m, k = m + 1 := ⟨k - 1, by omega⟩
    have := dst_zero.1 hd
    rw [impl_StatesBetween.l0, if_pos (by omega)]; simp [betL]
  | succ d ih =>
    intro k n acc hn hd hl hk
    obtain ⟨k, rfl⟩ : ∃ m, k = m + 1 := ⟨k - 1, by omega⟩
    have hne : n ≠ m := fun h => by have := dst_zero.2 h; omega
    have hx2 := nxt_lt hn hm hne
    rw [impl_StatesBetween.l0, if_neg (by omega), next (by omega) (by omega) hne (by omega), Option.bind_some, hx]
    simp only
    rw [state hr (by omega) (by omega), Option.bind_some, if_pos (by omega)]
    rw [ih k _ _ hx2 (dst_nxt hd) (by simp; omega) (by omega), betL]; simp
theorem specSB {k : Nat} {s t : ByteArray} {n m d Z : Int} (h1 : spec_riTwo.f k s t = some true) (h2 : spec_riNumber.f k s = some n) (h3 : spec_riNumber.f k t = some m) (h4 : spec_l1Abs.f (wrap64 (n - m)) = some d) (h5 : wrap64 (d + 1) = Z) :
    spec_StatesBetween.f k s t = spec_StatesBetween.j0 k s t (decide (Z > 2000)) := by
  unfold spec_StatesBetween.f
  rw [h1, Option.bind_some, if_pos rfl, h2, Option.bind_some, h3, Option.bind_some, h4, Option.bind_some, h5]
theorem implSB {k : Nat} {s t : ByteArray} {n m d Z : Int} (h1 : impl_alike.f s t = some true) (h2 : impl_number.f k s = some n) (h3 : impl_number.f k t = some m) (h4 : impl_apart.f n m = some d) (h5 : wrap64 (d + 1) = Z) :
    impl_StatesBetween.f k s t = impl_StatesBetween.j0 k s t (decide (Z > 2000)) := by
  unfold impl_StatesBetween.f
  rw [h1, Option.bind_some, if_pos rfl, h2, Option.bind_some, h3, Option.bind_some, h4, Option.bind_some, h5]
def hv (x i : Int) : Int := wrap64 ((shr .i64 x i) - (shr .i64 x (wrap64 (i + 1))))
def dv (lo hi : Int) (i : Nat) : Int := wrap64 (hv hi (i : Int) - hv lo (i : Int))
theorem riHalved {x : Int} {i : Nat} (h : i ≤ 1000) : spec_riHalved.f x (i : Int) = some (hv x (i : Int)) := by
  unfold spec_riHalved.f
  rw [if_pos (by omega), if_pos (by rw [w64 (by omega) (by omega)]; omega)]; rfl
theorem changes {x : Int} {i : Nat} (h : i ≤ 1000) : impl_changes.f x (i : Int) = some (hv x (i : Int)) := by
  unfold impl_changes.f
  rw [if_pos (by omega), if_pos (by rw [w64 (by omega) (by omega)]; omega)]; rfl
theorem specTimes_l0 {lo hi : Int} {n : Nat} (hn : n ≤ 1000) (d : Nat) : ∀ (k i : Nat) (x : List Int), i + d = n → x.length = n → d < k →
    spec_TimesMoved.l0 k lo hi x (n : Int) (i : Int) = some (x.take i ++ (List.range' i d).map (dv lo hi), true) := by
  induction d with
  | zero =>
    intro k i x hi' hx hk
    obtain ⟨k, rfl⟩ : ∃ m, k = m + 1 := ⟨k - 1, by omega⟩
    rw [spec_TimesMoved.l0, if_neg (by omega), List.take_of_length_le (by omega)]; simp
  | succ d ih =>
    intro k i x hi' hx hk
    obtain ⟨k, rfl⟩ : ∃ m, k = m + 1 := ⟨k - 1, by omega⟩
    rw [spec_TimesMoved.l0, if_pos (by omega), riHalved (by omega), Option.bind_some, riHalved (by omega), Option.bind_some, if_pos (by omega), if_pos (by omega), w64 (x := (i : Int) + 1) (by omega) (by omega), show ((i : Int) + 1) = ((i + 1 : Nat) : Int) by omega, Int.toNat_natCast]
    rw [ih k (i + 1) _ (by omega) (by simpa using hx) (by omega), List.range'_succ, List.map_cons, List.take_add_one, List.take_set_of_le (Nat.le_refl i), List.getElem?_set_self (by omega)]
    simp [dv]
theorem implTimes_l0 {lo hi : Int} {n : Nat} (hn : n ≤ 1000) (d : Nat) : ∀ (k i : Nat) (x : List Int), i + d = n → x.length = i → d < k →
    impl_TimesMoved.l0 k lo hi x (n : Int) (i : Int) = some (x ++ (List.range' i d).map (dv lo hi), true) := by
  induction d with
  | zero =>
    intro k i x hi' hx hk
    obtain ⟨k, rfl⟩ : ∃ m, k = m + 1 := ⟨k - 1, by omega⟩
    rw [impl_TimesMoved.l0, if_neg (by omega)]; simp
  | succ d ih =>
    intro k i x hi' hx hk
    obtain ⟨k, rfl⟩ : ∃ m, k = m + 1 := ⟨k - 1, by omega⟩
    rw [impl_TimesMoved.l0, if_pos (by omega), changes (by omega), Option.bind_some, changes (by omega), Option.bind_some, if_pos (by omega), w64 (x := (i : Int) + 1) (by omega) (by omega), show ((i : Int) + 1) = ((i + 1 : Nat) : Int) by omega]
    rw [ih k (i + 1) _ (by omega) (by simp; omega) (by omega), List.range'_succ, List.map_cons]
    simp [dv]

end Go.Proofs.YtddkffdjondjnaaGreatDoor.Pure
