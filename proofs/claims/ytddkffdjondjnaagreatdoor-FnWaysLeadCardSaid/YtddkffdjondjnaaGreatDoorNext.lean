/- What the printed functions of a way's next state give. -/
import Derived.Test.YtddkffdjondjnaaGreatDoorAx2
import Derived.Test.YtddkffdjondjnaaGreatDoorAx3
import Derived.Test.YtddkffdjondjnaaGreatDoorAx7
import Derived.Test.YtddkffdjondjnaaGreatDoorSteps
set_option linter.unusedVariables false
set_option linter.unusedSimpArgs false
namespace Go.Proofs.YtddkffdjondjnaaGreatDoor.Pure
open Go.RowKit Go.Proofs.YtddkffdjondjnaaGreatDoor.A Go.Proofs.YtddkffdjondjnaaGreatDoorW.PrintWords Go.Proofs.YtddkffdjondjnaaGreatDoorW.PrintLast Go.Proofs.YtddkffdjondjnaaGreatDoorW.PrintMore

/-! the moves of a state; the next state of a way -/
theorem canI_nat (bs : List Bool) (j : Nat) : canI bs (j : Int) = M.canM bs j := by
  unfold canI; rw [if_neg (by omega), Int.toNat_natCast]
def canL (bs : List Bool) (i d : Nat) : List Int := ((List.range' i d).filter fun j => M.canM bs j).map Int.ofNat
theorem canL_succ (bs : List Bool) (i d : Nat) : canL bs i (d + 1) = (if M.canM bs i = true then [(i : Int)] else []) ++ canL bs (i + 1) d := by
  unfold canL
  rw [List.range'_succ, List.filter_cons]
  split <;> rfl
theorem canL_length (bs : List Bool) (i d : Nat) : (canL bs i d).length ≤ d := by
  unfold canL
  rw [List.length_map]
  have := List.length_filter_le (fun j => M.canM bs j) (List.range' i d)
  simpa using this
theorem sb_byte {bs : List Bool} {i : Nat} (h : i < (sb bs).size) : ((sb bs)[i]'h).toNat < 128 := by
  have h' : i < bs.length := by rwa [sb_size] at h
  obtain ⟨b, hb, hd⟩ := drop_cons' h'
  have e := bt_at (sb bs) (i : Int) (by simpa using h)
  rw [bt_sb hb] at e
  simp only [Int.toNat_natCast] at e
  cases b
  · simp at e; omega
  · simp at e; omega
theorem riMoves_l0 {bs : List Bool} (h2 : bs.length ≤ 40) (d : Nat) : ∀ (k i : Nat) (acc : List Int), i + d = bs.length → acc.length ≤ i → d + 41 < k →
    spec_riMoves.l0 k (sb bs) acc i = some (acc ++ canL bs i d) := by
  induction d with
  | zero =>
    intro k i acc hi ha hk
    obtain ⟨k, rfl⟩ : ∃ m, k = m + 1 := ⟨k - 1, by omega⟩
    rw [spec_riMoves.l0, dif_neg (by rw [sb_size]; omega)]; simp [canL]
  | succ d ih =>
    intro k i acc hi ha hk
    obtain ⟨k, rfl⟩ : ∃ m, k = m + 1 := ⟨k - 1, by omega⟩
    have hs : i < (sb bs).size := by rw [sb_size]; omega
    rw [spec_riMoves.l0, dif_pos hs, if_pos (sb_byte hs), riCan h2 (by omega), canI_nat, Option.bind_some, canL_succ]
    by_cases q : M.canM bs i = true
    · rw [if_pos q, if_pos q, if_pos (by omega), ih k (i + 1) _ (by omega) (by simp; omega) (by omega), List.append_assoc]
    · rw [if_neg q, if_neg q, ih k (i + 1) _ (by omega) (by omega) (by omega)]; simp
theorem riMoves {bs : List Bool} {k : Nat} (h2 : bs.length ≤ 40) (hk : bs.length + 41 < k) : spec_riMoves.f k (sb bs) = some (canL bs 0 bs.length) := by
  have := riMoves_l0 h2 bs.length k 0 [] (by omega) (by simp) hk
  simpa [spec_riMoves.f] using this
theorem flip_get (bs : List Bool) (j i : Nat) : (M.flip bs j)[i]? = if i = j then (bs[i]?).map (!·) else bs[i]? := by
  induction bs generalizing j i with
  | nil => simp [M.flip]
  | cons b r ih =>
    cases j with
    | zero => cases i <;> simp [M.flip]
    | succ j => cases i with
      | zero => simp [M.flip]
      | succ i => simp [M.flip, ih]
theorem riDiffers_l0 {bs : List Bool} {j : Nat} (hj : j < bs.length) (d : Nat) : ∀ (k i : Nat), i + d = j → d < k →
    spec_riDiffers.l0 k (sb bs) (sb (M.flip bs j)) i = some (j : Int) := by
  induction d with
  | zero =>
    intro k i hi hk
    obtain ⟨k, rfl⟩ : ∃ m, k = m + 1 := ⟨k - 1, by omega⟩
    obtain rfl : i = j := by omega
    have hs : i < (sb bs).size := by rw [sb_size]; omega
    obtain ⟨b, hb, hd⟩ := drop_cons' hj
    have hf : (M.flip bs i)[i]? = some (!b) := by rw [flip_get, if_pos rfl, hb]; rfl
    rw [spec_riDiffers.l0, dif_pos hs, if_pos (sb_byte hs), if_pos (by rw [sb_size, M.flip_length]; omega), bt_sb hb, bt_sb hf, if_neg (by cases b <;> decide)]
  | succ d ih =>
    intro k i hi hk
    obtain ⟨k, rfl⟩ : ∃ m, k = m + 1 := ⟨k - 1, by omega⟩
    have hs : i < (sb bs).size := by rw [sb_size]; omega
    obtain ⟨b, hb, hd⟩ := drop_cons' (bs := bs) (i := i) (by omega)
    have hf : (M.flip bs j)[i]? = some b := by rw [flip_get, if_neg (by omega), hb]
    rw [spec_riDiffers.l0, dif_pos hs, if_pos (sb_byte hs), if_pos (by rw [sb_size, M.flip_length]; omega), bt_sb hb, bt_sb hf, if_pos rfl]
    exact ih k (i + 1) (by omega) (by omega)
theorem riDiffers {bs : List Bool} {j k : Nat} (hj : j < bs.length) (hk : j < k) : spec_riDiffers.f k (sb bs) (sb (M.flip bs j)) = some (j : Int) := riDiffers_l0 hj j k 0 (by omega) hk
theorem zeros_l0 (d : Nat) : ∀ (k n x : Nat), 0 < n → n < 2 ^ d → d ≤ 62 → x ≤ 1000 - d → d < k → impl_zeros.l0 k (n : Int) (x : Int) = some ((x + M.ctz n : Nat) : Int) := by
  induction d with
  | zero => intro k n x h0 h1; simp at h1; omega
  | succ d ih =>
    intro k n x h0 h1 hd hx hk
    obtain ⟨k, rfl⟩ : ∃ m, k = m + 1 := ⟨k - 1, by omega⟩
    have hn2 : n < 2 ^ 62 := Nat.lt_of_lt_of_le h1 (Nat.pow_le_pow_right (by decide) hd)
    rw [Nat.pow_succ] at h1
    rw [impl_zeros.l0, Int.tmod_eq_emod_of_nonneg (by omega)]
    by_cases q : n % 2 = 0
    · rw [if_pos (by omega), tdiv2 (by omega) (by omega), w64 (x := (x : Int) + 1) (by omega) (by omega), show ((n : Int) / 2) = ((n / 2 : Nat) : Int) by omega, show ((x : Int) + 1) = ((x + 1 : Nat) : Int) by omega, ih k (n / 2) (x + 1) (by omega) (by omega) (by omega) (by omega) (by omega), M.ctz_even h0 q]
      congr 2; omega
    · rw [if_neg (by omega), M.ctz_odd (by omega)]; rfl
theorem zeros {n k : Nat} (h0 : 0 < n) (h1 : n < 2 ^ 62) (hk : 62 < k) : impl_zeros.f k (n : Int) = some (M.ctz n : Int) := by
  have := zeros_l0 62 k n 0 h0 h1 (by omega) (by omega) hk
  rw [Nat.zero_add] at this
  exact this
/-- the next number on a way, and the ring that moves -/
def nxt (n m : Nat) : Nat := if n < m then n + 1 else n - 1
def rng (n m : Nat) : Nat := if n < m then M.ctz (n + 1) else M.ctz n
theorem next {n m k : Nat} (hn : n < 2 ^ 40) (hm : m < 2 ^ 40) (hne : n ≠ m) (hk : 62 < k) : impl_next.f k (n : Int) (m : Int) = some ((nxt n m : Int), (rng n m : Int)) := by
  unfold impl_next.f nxt rng
  by_cases q : n < m
  · rw [if_pos (by omega), if_pos q, if_pos q, w64 (by omega) (by omega), show ((n : Int) + 1) = ((n + 1 : Nat) : Int) by omega, zeros (by omega) (by omega) hk]; rfl
  · rw [if_neg (by omega), if_neg q, if_neg q, zeros (by omega) (by omega) hk, w64 (by omega) (by omega), show ((n : Int) - 1) = ((n - 1 : Nat) : Int) by omega]; rfl
theorem nxt_lt {n m r : Nat} (hn : n < 2 ^ r) (hm : m < 2 ^ r) (hne : n ≠ m) : nxt n m < 2 ^ r := by unfold nxt; split <;> omega
theorem rng_lt {n m r : Nat} (hn : n < 2 ^ r) (hm : m < 2 ^ r) (hne : n ≠ m) : rng n m < r := by
  unfold rng
  split
  · exact M.ctz_lt (by omega) (by omega)
  · exact M.ctz_lt (by omega) hn
theorem flip_next {n m r : Nat} (hn : n < 2 ^ r) (hm : m < 2 ^ r) (hne : n ≠ m) : M.flip (M.st r n) (rng n m) = M.st r (nxt n m) := by
  unfold rng nxt
  by_cases q : n < m
  · rw [if_pos q, if_pos q]; exact M.flip_up (by omega)
  · rw [if_neg q, if_neg q]; exact M.flip_down (by omega) hn
theorem riNext {a b : List Bool} {k : Nat} (ha : a.length ≤ 40) (hb : b.length = a.length) (hne : a ≠ b) (hk : 62 < k) :
    spec_riNext.f k (sb a) (sb b) = some (sb (M.flip a (rng (M.num a) (M.num b)))) := by
  have na := num_small ha
  have nb := num_small (bs := b) (by omega)
  have la := M.num_lt a
  have lb := M.num_lt b
  rw [hb] at lb
  have hnn : M.num a ≠ M.num b := fun h => hne (M.num_inj hb.symm h)
  have hx := nxt_lt la lb hnn
  unfold spec_riNext.f
  rw [riNumber ha (by omega), riNumber (by omega) (by omega), sb_size]
  simp only [Option.bind_some]
  rw [w64 (x := (M.num b : Int) - (M.num a : Int)) (by omega) (by omega)]
  have hf := flip_next la lb hnn
  rw [M.st_num] at hf
  have hp : 2 ^ a.length ≤ 2 ^ 40 := Nat.pow_le_pow_right (by decide) ha
  have e : (spec_l1Sign.f ((M.num b : Int) - (M.num a : Int))).bind (fun t => spec_riState.f k (a.length : Int) (wrap64 ((M.num a : Int) + t))) = some (sb (M.st a.length (nxt (M.num a) (M.num b)))) := by
    rw [← riState (r := a.length) (n := nxt (M.num a) (M.num b)) (k := k) ha (by omega) (by omega)]
    unfold spec_l1Sign.f nxt
    by_cases q : M.num a < M.num b
    · rw [if_pos (by omega), if_pos q, Option.bind_some, w64 (by omega) (by omega), show ((M.num a : Int) + 1) = ((M.num a + 1 : Nat) : Int) by omega]
    · rw [if_neg (by omega), if_pos (by omega), if_neg q, Option.bind_some, w64 (by omega) (by omega), show ((M.num a : Int) + -1) = ((M.num a - 1 : Nat) : Int) by omega]
  rw [hf]
  have e2 := congrArg (fun z => z.bind fun t => some t) e
  simpa [Option.bind_assoc] using e2

end Go.Proofs.YtddkffdjondjnaaGreatDoor.Pure
