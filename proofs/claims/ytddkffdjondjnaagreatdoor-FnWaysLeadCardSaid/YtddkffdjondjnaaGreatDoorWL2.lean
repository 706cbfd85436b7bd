-- written by a program of this session's over the kit's print (xp.py)
import Derived.Test.YtddkffdjondjnaaGreatDoorAx5
import Derived.Test.YtddkffdjondjnaaGreatDoorAx6
import Derived.Test.YtddkffdjondjnaaGreatDoorWL
set_option linter.unusedVariables false
set_option linter.unusedSimpArgs false
namespace Go.Proofs.YtddkffdjondjnaaGreatDoor.Pure
open Go.RowKit Go.Proofs.YtddkffdjondjnaaGreatDoor.A Go.Proofs.YtddkffdjondjnaaGreatDoorW.PrintWords Go.Proofs.YtddkffdjondjnaaGreatDoorW.PrintLast Go.Proofs.YtddkffdjondjnaaGreatDoorW.PrintMore

theorem ySame_l0 {l : List Int} (hb : l.length ≤ 281474976710656) (d : Nat) : ∀ (k i : Nat), i + d = l.length → d < k → laws_ySame.l0 k l l (l.length : Int) (i : Int) = some true := by
  induction d with
  | zero =>
    intro k i hi hk
    obtain ⟨k, rfl⟩ : ∃ m, k = m + 1 := ⟨k - 1, by omega⟩
    rw [laws_ySame.l0, if_neg (by omega)]
  | succ d ih =>
    intro k i hi hk
    obtain ⟨k, rfl⟩ : ∃ m, k = m + 1 := ⟨k - 1, by omega⟩
    rw [laws_ySame.l0, if_pos (by omega), if_pos (by omega), if_pos (by omega), if_pos (by omega), if_pos rfl, w64 (by omega) (by omega), show ((i : Int) + 1) = ((i + 1 : Nat) : Int) by omega]
    exact ih k (i + 1) (by omega) (by omega)
theorem ySame_self {l : List Int} {k : Nat} (hb : l.length ≤ 281474976710656) (hk : l.length < k) : laws_ySame.f k l l = some true := by
  unfold laws_ySame.f
  rw [if_pos rfl]
  exact ySame_l0 hb l.length k 0 (by omega) hk
theorem yTexts_l0 {l : List ByteArray} (hb : l.length ≤ 281474976710656) (d : Nat) : ∀ (k i : Nat), i + d = l.length → d < k → laws_yTexts.l0 k l l (l.length : Int) (i : Int) = some true := by
  induction d with
  | zero =>
    intro k i hi hk
    obtain ⟨k, rfl⟩ : ∃ m, k = m + 1 := ⟨k - 1, by omega⟩
    rw [laws_yTexts.l0, if_neg (by omega)]
  | succ d ih =>
    intro k i hi hk
    obtain ⟨k, rfl⟩ : ∃ m, k = m + 1 := ⟨k - 1, by omega⟩
    rw [laws_yTexts.l0, if_pos (by omega), if_pos (by omega), if_pos (by omega), if_pos (by omega), if_pos rfl, w64 (by omega) (by omega), show ((i : Int) + 1) = ((i + 1 : Nat) : Int) by omega]
    exact ih k (i + 1) (by omega) (by omega)
theorem yTexts_self {l : List ByteArray} {k : Nat} (hb : l.length ≤ 281474976710656) (hk : l.length < k) : laws_yTexts.f k l l = some true := by
  unfold laws_yTexts.f
  rw [if_pos rfl]
  exact yTexts_l0 hb l.length k 0 (by omega) hk
theorem ySum_l0 {l : List Int} (hb : l.length ≤ 1000) (h0 : ∀ x ∈ l, 0 ≤ x ∧ x ≤ 2000000000000) (r : List Int) : ∀ (k i : Nat) (a : Int), l.drop i = r → 0 ≤ a → a ≤ 2000000000000 * (i : Int) → r.length < k →
    laws_ySum.l0 k a l (l.length : Int) (i : Int) = some (a + r.sum) := by
  induction r with
  | nil =>
    intro k i a hd ha hb' hk
    obtain ⟨k, rfl⟩ : ∃ m, k = m + 1 := ⟨k - 1, by omega⟩
    have : l.length ≤ i := List.drop_eq_nil_iff.1 hd
    rw [laws_ySum.l0, if_neg (by omega)]; simp
  | cons x r ih =>
    intro k i a hd ha hb' hk
    obtain ⟨k, rfl⟩ : ∃ m, k = m + 1 := ⟨k - 1, by omega⟩
    obtain ⟨h2, h3, h4⟩ := getElem?_drop_cons hd
    have hx := h0 x (List.mem_of_getElem? h2)
    simp only [List.length_cons] at hk
    rw [laws_ySum.l0, if_pos (by omega), if_pos (by omega), if_pos (by omega), rd_nat h2, w64 (x := a + x) (by omega) (by omega), w64 (x := (i : Int) + 1) (by omega) (by omega), show ((i : Int) + 1) = ((i + 1 : Nat) : Int) by omega, ih k (i + 1) (a + x) h3 (by omega) (by omega) (by omega), List.sum_cons]
    congr 1; omega
theorem sum_sub : ∀ (l : List Nat) (f g : Nat → Nat), (∀ i, g i ≤ f i) → ((l.map fun i => ((f i - g i : Nat) : Int)).sum : Int) = ((l.map f).sum : Int) - ((l.map g).sum : Int)
  | [], _, _, _ => by simp
  | x :: l, f, g, h => by
    have := h x
    simp only [List.map_cons, List.sum_cons, sum_sub l f g h]
    omega
theorem tml_sum {r n m : Nat} (hn : n < 2 ^ r) (hm : m < 2 ^ r) : (tml r n m).sum = (dst n m : Int) := by
  unfold tml tmv
  rw [sum_sub _ (fun i => M.cnt i (max n m)) (fun i => M.cnt i (min n m)) (fun i => M.cnt_le i (by omega)), M.cnt_sum, M.cnt_sum]
  rw [Nat.div_eq_of_lt (show max n m < 2 ^ r by omega), Nat.div_eq_of_lt (show min n m < 2 ^ r by omega)]
  unfold dst
  split <;> omega
theorem tmv_le {n m i : Nat} : tmv n m i ≤ max n m := by
  unfold tmv
  have := M.cnt_le_self i (max n m)
  omega
theorem ySum_tml {r n m k : Nat} (h2 : r ≤ 20) (hn : n < 2 ^ r) (hm : m < 2 ^ r) (hk : 30 < k) : laws_ySum.f k (tml r n m) = some (dst n m : Int) := by
  have hp := pow20 h2
  have := ySum_l0 (l := tml r n m) (by rw [tml_length]; omega) (fun x hx => by
    unfold tml at hx
    obtain ⟨i, _, rfl⟩ := List.mem_map.1 hx
    have := @tmv_le n m i
    omega) (tml r n m) k 0 0 (by simp) (by omega) (by omega) (by rw [tml_length]; omega)
  rw [Int.zero_add, tml_sum hn hm] at this
  unfold laws_ySum.f
  exact this
theorem can_next {r n m : Nat} (hn : n < 2 ^ r) (hm : m < 2 ^ r) (hne : n ≠ m) : M.canM (M.st r n) (rng n m) = true := by
  unfold rng
  split
  · exact (M.can_up (by omega)).1
  · exact M.can_down (by omega) hn
theorem play_way {r m : Nat} (hm : m < 2 ^ r) (d : Nat) : ∀ (n i : Nat), n < 2 ^ r → dst n m = d → playB (M.st r n) (wayL d n m) i = (M.st r m, none) := by
  induction d with
  | zero => intro n i hn hd; rw [dst_zero.1 hd]; rfl
  | succ d ih =>
    intro n i hn hd
    have hne : n ≠ m := fun h => by have := dst_zero.2 h; omega
    have hc : canI (M.st r n) (rng n m : Int) = true := by rw [canI_nat]; exact can_next hn hm hne
    rw [wayL, playB, if_pos hc, Int.toNat_natCast, flip_next hn hm hne]
    exact ih _ _ (nxt_lt hn hm hne) (dst_nxt hd)
theorem count_ofNat (k : Nat) : ∀ l : List Nat, (l.map Int.ofNat).count (k : Int) = l.count k
  | [] => rfl
  | x :: l => by
    have e : (Int.ofNat x == (k : Int)) = (x == k) := by
      show ((x : Int) == (k : Int)) = (x == k)
      rw [Bool.eq_iff_iff, beq_iff_eq, beq_iff_eq]; omega
    rw [List.map_cons, List.count_cons, List.count_cons, count_ofNat k l, e]
theorem way_ups {m : Nat} (d : Nat) : ∀ n, n + d = m → wayL d n m = (M.ups n d).map Int.ofNat := by
  induction d with
  | zero => intro n _; rfl
  | succ d ih =>
    intro n h
    rw [wayL, M.ups, List.map_cons]
    unfold nxt rng
    rw [if_pos (by omega), if_pos (by omega), ih (n + 1) (by omega)]; rfl
theorem way_downs {m : Nat} (d : Nat) : ∀ n, m + d = n → wayL d n m = (M.downs n d).map Int.ofNat := by
  induction d with
  | zero => intro n _; rfl
  | succ d ih =>
    intro n h
    rw [wayL, M.downs, List.map_cons]
    unfold nxt rng
    rw [if_neg (by omega), if_neg (by omega), ih (n - 1) (by omega)]; rfl
theorem way_count (n m k : Nat) : (wayL (dst n m) n m).count (k : Int) = tmv n m k := by
  unfold dst tmv
  by_cases q : n < m
  · rw [if_pos q, way_ups (m - n) n (by omega), count_ofNat]
    have := M.ups_count k n (m - n)
    rw [show n + (m - n) = m by omega] at this
    rw [Nat.max_eq_right (by omega), Nat.min_eq_left (by omega)]; omega
  · rw [if_neg q, way_downs (n - m) n (by omega), count_ofNat]
    have := M.downs_count k n (n - m) (by omega)
    rw [show n - (n - m) = m by omega] at this
    rw [Nat.max_eq_left (by omega), Nat.min_eq_right (by omega)]; omega
theorem way_head {n m : Nat} (hne : n ≠ m) : (wayL (dst n m) n m)[0]? = some (rng n m : Int) := by
  obtain ⟨d, hd⟩ : ∃ d, dst n m = d + 1 := ⟨dst n m - 1, by have : dst n m ≠ 0 := fun h => hne (dst_zero.1 h); omega⟩
  rw [hd, wayL]; rfl
theorem playMoves_way {r n m k : Nat} (h1 : 1 ≤ r) (h2 : r ≤ 20) (hn : n < 2 ^ r) (hm : m < 2 ^ r) (hd : dst n m ≤ 2000) (hk : 3000 < k) :
    impl_PlayMoves.f k (sb (M.st r n)) (wayL (dst n m) n m) = some (sb (M.st r m), true) := by
  obtain ⟨k, rfl⟩ : ∃ q, k = q + 1 := ⟨k - 1, by omega⟩
  have hl := wayL_length (dst n m) n m
  have hs := isState_sb (bs := M.st r n) (by rw [M.st_length]; exact h1) (by rw [M.st_length]; exact h2)
  have hp := play (l := wayL (dst n m) n m) (bs := M.st r n) (k := k) (by omega) (by rw [M.st_length]; exact h1) (by rw [M.st_length]; omega) (by omega)
  rw [play_way hm (dst n m) n 0 hn rfl] at hp
  unfold impl_PlayMoves.f
  rw [hs, Option.bind_some, if_pos rfl, decide_eq_false (by omega), impl_PlayMoves.j0, if_neg (by decide), hp]
  simp only [Option.bind_some, pos]
  rw [if_neg (by omega)]
/-- the number that a way has come to -/
def ptn (n m i : Nat) : Nat := if n < m then n + i else n - i
theorem bet_get {r m : Nat} (d : Nat) : ∀ (n i : Nat), dst n m = d → i ≤ d → (sb (M.st r n) :: betL r d n m)[i]? = some (sb (M.st r (ptn n m i))) := by
  induction d with
  | zero =>
    intro n i hd hi
    obtain rfl : i = 0 := by omega
    have : ptn n m 0 = n := by unfold ptn; split <;> omega
    rw [this]; rfl
  | succ d ih =>
    intro n i hd hi
    cases i with
    | zero =>
      have : ptn n m 0 = n := by unfold ptn; split <;> omega
      rw [this]; rfl
    | succ i =>
      have e : ptn (nxt n m) m i = ptn n m (i + 1) := by
        unfold dst at hd
        unfold ptn nxt
        by_cases q : n < m
        · rw [if_pos q] at hd
          rw [if_pos q, if_pos q]
          split <;> omega
        · rw [if_neg q] at hd
          rw [if_neg q, if_neg q]
          split <;> omega
      rw [betL, List.getElem?_cons_succ, ih (nxt n m) i (dst_nxt hd) (by omega), e]
theorem ptn_lt {r n m i : Nat} (hn : n < 2 ^ r) (hm : m < 2 ^ r) (hi : i ≤ dst n m) : ptn n m i < 2 ^ r := by
  unfold dst at hi; unfold ptn
  by_cases q : n < m
  · rw [if_pos q] at hi; rw [if_pos q]; omega
  · rw [if_neg q] at hi; rw [if_neg q]; omega
theorem ptn_step {n m i : Nat} (hi : i + 1 ≤ dst n m) : dst (ptn n m i) (ptn n m (i + 1)) = 1 := by
  unfold dst at hi; unfold ptn
  by_cases q : n < m
  · rw [if_pos q] at hi; rw [if_pos q, if_pos q]; unfold dst; split <;> omega
  · rw [if_neg q] at hi; rw [if_neg q, if_neg q]; unfold dst; split <;> omega
theorem ptn_end (n m : Nat) : ptn n m (dst n m) = m := by unfold ptn dst; split <;> omega

end Go.Proofs.YtddkffdjondjnaaGreatDoor.Pure
