/- What the printed moves of rings give. -/
import Derived.Test.YtahdlpadcbigaaaDoorAE
import Derived.Test.YtahdlpadcbigaaaDoorAx1
import Derived.Test.YtahdlpadcbigaaaDoorAx3
import Derived.Test.YtahdlpadcbigaaaDoorAx4
import Derived.Test.YtahdlpadcbigaaaDoorRing
set_option linter.unusedVariables false
set_option linter.unusedSimpArgs false
namespace Go.Proofs.YtahdlpadcbigaaaDoor.Pure
open Go.RowKit Go.Proofs.YtahdlpadcbigaaaDoor.A Go.Proofs.YtahdlpadcbigaaaDoorW.PrintWords Go.Proofs.YtahdlpadcbigaaaDoorW.PrintLast Go.Proofs.YtahdlpadcbigaaaDoorW.PrintMore

/-! moves of rings -/
theorem can_iff (bs : List Bool) (k : Nat) : M.canM bs (k + 1) = (decide (k + 1 < bs.length) && bs.getD k false && !(bs.take k).contains true) := by
  induction bs generalizing k with
  | nil => simp [M.canM]
  | cons b r ih =>
    cases k with
    | zero => cases r <;> simp [M.canM]
    | succ k =>
      rw [M.canM, ih k]
      cases b <;> simp
def canI (bs : List Bool) (a : Int) : Bool := if a < 0 then false else M.canM bs a.toNat
theorem flip_eq {bs : List Bool} {k : Nat} {b : Bool} (h : bs[k]? = some b) : M.flip bs k = bs.take k ++ (!b) :: bs.drop (k + 1) := by
  induction bs generalizing k with
  | nil => simp at h
  | cons c r ih =>
    cases k with
    | zero => simp at h; simp [M.flip, h]
    | succ k => simp at h; simp [M.flip, ih h]
theorem tx_extract (l : List UInt8) (a b : Nat) : (tx l).extract a b = tx ((l.take b).drop a) := by
  apply ByteArray.ext
  simp [tx, ByteArray.data_extract, List.drop_take]
theorem tx_take (l : List UInt8) (b : Nat) : (tx l).extract 0 b = tx (l.take b) := by rw [tx_extract]; rfl
theorem tx_drop (l : List UInt8) (a : Nat) : (tx l).extract a (tx l).size = tx (l.drop a) := by rw [tx_extract, tx_size, List.take_length]
theorem count_sg (bs : List Bool) : (bs.map sg).count 49 = bs.count true := by
  induction bs with
  | nil => rfl
  | cons b r ih => cases b <;> simp [List.count_cons, ih, sg]
theorem notOn (bs : List Bool) : ((((bs.map sg).count 49 : Nat) : Int) == 0) = !bs.contains true := by
  rw [count_sg, Bool.eq_iff_iff, beq_iff_eq]
  simp [List.count_eq_zero]
theorem notOn' (bs : List Bool) : ((tx (Lib.trimS (bs.map sg) [48])).toList == ([] : List UInt8)) = !bs.contains true := by
  rw [tx_toList, nil_beq, Bool.eq_iff_iff, List.isEmpty_iff, trim_nil]
  simp only [List.mem_map, forall_exists_index, and_imp, forall_apply_eq_imp_iff₂, Bool.not_eq_true', List.contains_eq_mem, decide_eq_false_iff_not]
  constructor
  · intro h hc; have := h true hc; simp [sg] at this
  · intro h b hb
    cases b
    · rfl
    · exact absurd hb h
theorem canI_out {bs : List Bool} {a : Int} (h0 : a ≠ 0) (h : ¬ (1 ≤ a ∧ a ≤ (bs.length : Int) - 1)) : canI bs a = false := by
  unfold canI
  split
  · rfl
  · obtain ⟨k, rfl⟩ : ∃ k : Nat, a = ((k + 1 : Nat) : Int) := ⟨a.toNat - 1, by omega⟩
    rw [Int.toNat_natCast, can_iff]
    have : ¬ k + 1 < bs.length := by omega
    simp [this]
theorem canI_in (bs : List Bool) (k : Nat) : canI bs ((k : Int) + 1) = (decide (k + 1 < bs.length) && bs.getD k false && !(bs.take k).contains true) := by
  unfold canI
  rw [if_neg (by omega), show ((k : Int) + 1).toNat = k + 1 by omega, can_iff]
theorem getD_of {bs : List Bool} {k : Nat} {b : Bool} (h : bs[k]? = some b) : bs.getD k false = b := by rw [List.getD, h]; rfl
theorem riCan {bs : List Bool} {a : Int} {k : Nat} (h2 : bs.length ≤ 40) (hk : 40 < k) : spec_riCan.f k (sb bs) a = some (canI bs a) := by
  unfold spec_riCan.f spec_l1In.f
  by_cases h0 : a = 0
  · subst h0; rw [if_pos rfl]; simp [canI, M.can_zero]
  · rw [if_neg h0, sb_size, w64 (x := (bs.length : Int) - 1) (by omega) (by omega)]
    by_cases h : 1 ≤ a ∧ a ≤ (bs.length : Int) - 1
    · obtain ⟨j, rfl⟩ : ∃ j : Nat, a = (j : Int) + 1 := ⟨a.toNat - 1, by omega⟩
      obtain ⟨b, hb, hd⟩ := drop_cons' (bs := bs) (i := j) (by omega)
      have e1 : ((j : Int) + 1 ≥ 1) := by omega
      have e2 : ((j : Int) + 1 ≤ (bs.length : Int) - 1) := by omega
      have e3 : (0 : Int) ≤ (j : Int) := by omega
      have e4 : (j : Int) < (bs.length : Int) := by omega
      have e5 : (j : Int) ≤ (bs.length : Int) := by omega
      have e6 : j + 1 < bs.length := by omega
      have hx : (sb bs).extract 0 j = tx ((bs.take j).map sg) := by rw [sb, tx_take, List.map_take]
      have ho : spec_riOn.f k (tx ((bs.take j).map sg)) = some ((((bs.take j).map sg).count 49 : Nat) : Int) := riOn (by simp; omega) (by simp; omega)
      rw [w64 (x := (j : Int) + 1 - 1) (by omega) (by omega), show ((j : Int) + 1 - 1) = (j : Int) by omega, bt_sb hb, canI_in, getD_of hb, Int.toNat_natCast, hx, ho]
      simp only [e1, e2, e3, e4, e5, e6, if_true, decide_true, Option.bind_some, notOn]
      cases b <;> simp
    · rw [canI_out h0 h]
      by_cases e1 : a ≥ 1
      · have e2 : ¬ a ≤ (bs.length : Int) - 1 := by omega
        simp [e1, e2]
      · simp [e1]
theorem canMove {bs : List Bool} {a : Int} (h2 : bs.length ≤ 40) : impl_canMove.f (sb bs) a = some (canI bs a) := by
  unfold impl_canMove.f impl_in.f
  by_cases h0 : a = 0
  · subst h0; rw [if_pos rfl]; simp [canI, M.can_zero]
  · rw [if_neg h0, sb_size, w64 (x := (bs.length : Int) - 1) (by omega) (by omega)]
    by_cases h : 1 ≤ a ∧ a ≤ (bs.length : Int) - 1
    · obtain ⟨j, rfl⟩ : ∃ j : Nat, a = (j : Int) + 1 := ⟨a.toNat - 1, by omega⟩
      obtain ⟨b, hb, hd⟩ := drop_cons' (bs := bs) (i := j) (by omega)
      have e1 : ((j : Int) + 1 ≥ 1) := by omega
      have e2 : ((j : Int) + 1 ≤ (bs.length : Int) - 1) := by omega
      have e3 : (0 : Int) ≤ (j : Int) := by omega
      have e4 : (j : Int) < (bs.length : Int) := by omega
      have e5 : (j : Int) ≤ (bs.length : Int) := by omega
      have e6 : j + 1 < bs.length := by omega
      have hx : (sb bs).extract 0 j = tx ((bs.take j).map sg) := by rw [sb, tx_take, List.map_take]
      have ho : strings_Trim.f (tx ((bs.take j).map sg)) (⟨#[48]⟩ : ByteArray) = some (tx (Lib.trimS ((bs.take j).map sg) [48])) := by
        rw [show (⟨#[48]⟩ : ByteArray) = tx [48] from rfl, trim_f (by simp; omega) (by decide) (by decide)]
      rw [w64 (x := (j : Int) + 1 - 1) (by omega) (by omega), show ((j : Int) + 1 - 1) = (j : Int) by omega, bt_sb hb, canI_in, getD_of hb, Int.toNat_natCast, hx, ho]
      simp only [e1, e2, e3, e4, e5, e6, if_true, decide_true, Option.bind_some, notOn']
      cases b <;> simp
    · rw [canI_out h0 h]
      by_cases e1 : a ≥ 1
      · have e2 : ¬ a ≤ (bs.length : Int) - 1 := by omega
        simp [e1, e2]
      · simp [e1]
theorem canI_lt {bs : List Bool} {a : Int} (h1 : 1 ≤ bs.length) (h : canI bs a = true) : ∃ j : Nat, a = (j : Int) ∧ j < bs.length := by
  by_cases h0 : a = 0
  · exact ⟨0, h0, by omega⟩
  · by_cases q : 1 ≤ a ∧ a ≤ (bs.length : Int) - 1
    · exact ⟨a.toNat, by omega, by omega⟩
    · rw [canI_out h0 q] at h; cases h
theorem sb_flip {bs : List Bool} {j : Nat} {b : Bool} (h : bs[j]? = some b) : sb (M.flip bs j) = tx ((bs.map sg).take j) ++ tx [sg (!b)] ++ tx ((bs.map sg).drop (j + 1)) := by
  rw [sb, flip_eq h, tx_app, tx_app]
  simp [List.map_take, List.map_drop]
theorem riMove {bs : List Bool} {j : Nat} (h2 : bs.length ≤ 40) (hj : j < bs.length) : spec_riMove.f (sb bs) (j : Int) = some (sb (M.flip bs j)) := by
  obtain ⟨b, hb, hd⟩ := drop_cons' (bs := bs) (i := j) (by omega)
  unfold spec_riMove.f
  have e3 : (0 : Int) ≤ (j : Int) := by omega
  have e4 : (j : Int) < (bs.length : Int) := by omega
  have e5 : (j : Int) ≤ (bs.length : Int) := by omega
  have e7 : (0 : Int) ≤ ((j + 1 : Nat) : Int) := by omega
  have e8 : ((j + 1 : Nat) : Int) ≤ (bs.length : Int) := by omega
  have hx : (sb bs).extract 0 j = tx ((bs.map sg).take j) := tx_take _ _
  have hy : (sb bs).extract (j + 1) bs.length = tx ((bs.map sg).drop (j + 1)) := by
    have := tx_drop (bs.map sg) (j + 1)
    rwa [tx_size, List.length_map] at this
  have z0 : (⟨#[48]⟩ : ByteArray) = tx [48] := rfl
  have z1 : (⟨#[49]⟩ : ByteArray) = tx [49] := rfl
  rw [sb_size, bt_sb hb, w64 (x := (j : Int) + 1) (by omega) (by omega), show ((j : Int) + 1) = ((j + 1 : Nat) : Int) by omega, Int.toNat_natCast, Int.toNat_natCast, hx, hy, sb_flip hb, z0, z1]
  have s1 : (tx ((bs.map sg).take j)).size + 1 ≤ 9223372036854775807 := by rw [tx_size]; simp; omega
  have s2 : ∀ c : UInt8, (tx ((bs.map sg).take j) ++ tx [c]).size + (tx ((bs.map sg).drop (j + 1))).size ≤ 9223372036854775807 := by
    intro c; rw [tx_app, tx_size, tx_size]; simp; omega
  simp only [e3, e4, e5, e7, e8, s1, s2, if_true]
  cases b <;> simp [sg]
theorem bytes_sb (bs : List Bool) : bytesOf (sb bs) = bs.map nsg := by
  rw [bytesOf, sb, tx_data, List.map_map]
  apply List.map_congr_left
  intro b _
  cases b <;> rfl
theorem turned {bs : List Bool} {j : Nat} (h2 : bs.length ≤ 40) (hj : j < bs.length) : impl_turned.f (sb bs) (j : Int) = some (sb (M.flip bs j)) := by
  obtain ⟨b, hb, hd⟩ := drop_cons' (bs := bs) (i := j) (by omega)
  unfold impl_turned.f
  rw [sb_size, if_pos ⟨by omega, by omega, by omega⟩, bytes_sb, bt_sb hb, Int.toNat_natCast, ← strOfNums_nsg (M.flip bs j), flip_eq hb]
  congr 2
  have hl : (List.map nsg bs).length = bs.length := by simp
  rw [List.set_eq_take_append_cons_drop, if_pos (by omega)]
  simp only [List.map_append, List.map_cons, List.map_take, List.map_drop]
  congr 2
  cases b <;> rfl

/-- a state after moves: the state, and where the first move that fails stands -/
def playB : List Bool → List Int → Nat → List Bool × Option Nat
  | bs, [], _ => (bs, none)
  | bs, m :: r, i => if canI bs m = true then playB (M.flip bs m.toNat) r (i + 1) else (bs, some i)
theorem playB_lt (r : List Int) : ∀ (bs : List Bool) (i j : Nat), (playB bs r i).2 = some j → j < i + r.length := by
  induction r with
  | nil => intro bs i j h; cases h
  | cons m r ih =>
    intro bs i j h
    rw [playB] at h
    split at h
    · have := ih _ _ _ h; simp; omega
    · cases h; simp
theorem playB_length (r : List Int) : ∀ (bs : List Bool) (i : Nat), (playB bs r i).1.length = bs.length := by
  induction r with
  | nil => intro bs i; rfl
  | cons m r ih =>
    intro bs i
    rw [playB]
    split
    · rw [ih, M.flip_length]
    · rfl
def pos (d : Int) : Option Nat → Int
  | none => d
  | some j => (j : Int)
theorem riPlay_l0 {l : List Int} (hl : l.length ≤ 2000000) (r : List Int) : ∀ (k i : Nat) (bs : List Bool), 1 ≤ bs.length → bs.length ≤ 40 → l.drop i = r → r.length + 45 < k →
    spec_riPlay.l0 k (sb bs) l (l.length : Int) (i : Int) = some (sb (playB bs r i).1, pos (-1) (playB bs r i).2) := by
  induction r with
  | nil =>
    intro k i bs h1 h2 hd hk
    obtain ⟨k, rfl⟩ : ∃ m, k = m + 1 := ⟨k - 1, by omega⟩
    have : l.length ≤ i := List.drop_eq_nil_iff.1 hd
    rw [spec_riPlay.l0, if_neg (by omega)]; rfl
  | cons m r ih =>
    intro k i bs h1 h2 hd hk
    obtain ⟨k, rfl⟩ : ∃ m, k = m + 1 := ⟨k - 1, by omega⟩
    obtain ⟨g2, g3, g4⟩ := getElem?_drop_cons hd
    simp only [List.length_cons] at hk
    rw [spec_riPlay.l0, if_pos (by omega), if_pos (by omega), if_pos (by omega), rd_nat g2, riCan h2 (by omega), playB, Option.bind_some]
    by_cases q : canI bs m = true
    · obtain ⟨j, rfl, hj⟩ := canI_lt h1 q
      rw [if_pos q, if_pos q, riMove h2 hj, Option.bind_some, w64 (x := (i : Int) + 1) (by omega) (by omega), show ((i : Int) + 1) = ((i + 1 : Nat) : Int) by omega, Int.toNat_natCast]
      exact ih k (i + 1) _ (by rw [M.flip_length]; exact h1) (by rw [M.flip_length]; exact h2) g3 (by omega)
    · rw [if_neg q, if_neg q]; rfl
theorem play_l0 {l : List Int} (hl : l.length ≤ 2000000) (r : List Int) : ∀ (k i : Nat) (bs : List Bool), 1 ≤ bs.length → bs.length ≤ 40 → l.drop i = r → r.length < k →
    impl_play.l0 k (sb bs) l l (l.length : Int) (i : Int) = some (sb (playB bs r i).1, pos (l.length : Int) (playB bs r i).2) := by
  induction r with
  | nil =>
    intro k i bs h1 h2 hd hk
    obtain ⟨k, rfl⟩ : ∃ m, k = m + 1 := ⟨k - 1, by omega⟩
    have : l.length ≤ i := List.drop_eq_nil_iff.1 hd
    rw [impl_play.l0, if_neg (by omega)]; rfl
  | cons m r ih =>
    intro k i bs h1 h2 hd hk
    obtain ⟨k, rfl⟩ : ∃ m, k = m + 1 := ⟨k - 1, by omega⟩
    obtain ⟨g2, g3, g4⟩ := getElem?_drop_cons hd
    simp only [List.length_cons] at hk
    rw [impl_play.l0, if_pos (by omega), if_pos (by omega), if_pos (by omega), rd_nat g2, canMove h2, playB, Option.bind_some]
    by_cases q : canI bs m = true
    · obtain ⟨j, rfl, hj⟩ := canI_lt h1 q
      rw [if_pos q, if_pos q, turned h2 hj, Option.bind_some, w64 (x := (i : Int) + 1) (by omega) (by omega), show ((i : Int) + 1) = ((i + 1 : Nat) : Int) by omega, Int.toNat_natCast]
      exact ih k (i + 1) _ (by rw [M.flip_length]; exact h1) (by rw [M.flip_length]; exact h2) g3 (by omega)
    · rw [if_neg q, if_neg q]; rfl
theorem riPlay {l : List Int} {bs : List Bool} {k : Nat} (hl : l.length ≤ 2000000) (h1 : 1 ≤ bs.length) (h2 : bs.length ≤ 40) (hk : l.length + 45 < k) :
    spec_riPlay.f k (sb bs) l = some (sb (playB bs l 0).1, pos (-1) (playB bs l 0).2) := riPlay_l0 hl l k 0 bs h1 h2 (by simp) hk
theorem play {l : List Int} {bs : List Bool} {k : Nat} (hl : l.length ≤ 2000000) (h1 : 1 ≤ bs.length) (h2 : bs.length ≤ 40) (hk : l.length < k) :
    impl_play.f k (sb bs) l = some (sb (playB bs l 0).1, pos (l.length : Int) (playB bs l 0).2) := play_l0 hl l k 0 bs h1 h2 (by simp) hk

/-! the moves of a state -/
theorem canI_nat (bs : List Bool) (j : Nat) : canI bs (j : Int) = M.canM bs j := by
  unfold canI; rw [if_neg (by omega), Int.toNat_natCast]
def canL (bs : List Bool) (i d : Nat) : List Int := ((List.range' i d).filter fun j => M.canM bs j).map Int.ofNat
theorem canL_succ (bs : List Bool) (i d : Nat) : canL bs i (d + 1) = (if M.canM bs i = true then [(i : Int)] else []) ++ canL bs (i + 1) d := by
  unfold canL
  rw [List.range'_succ, List.filter_cons]
  split <;> rfl
theorem canL_length (bs : List Bool) (i d : Nat) : (canL bs i d).length ≤ d := by
  unfold canL
  rw [List.length_map]
  have := List.length_filter_le (fun j => M.canM bs j) (List.range' i d)
  simpa using this
theorem sb_byte {bs : List Bool} {i : Nat} (h : i < (sb bs).size) : ((sb bs)[i]'h).toNat < 128 := by
  have h' : i < bs.length := by rwa [sb_size] at h
  obtain ⟨b, hb, hd⟩ := drop_cons' h'
  have e := bt_at (sb bs) (i : Int) (by simpa using h)
  rw [bt_sb hb] at e
  simp only [Int.toNat_natCast] at e
  cases b
  · simp at e; omega
  · simp at e; omega
theorem riMoves_l0 {bs : List Bool} (h2 : bs.length ≤ 40) (d : Nat) : ∀ (k i : Nat) (acc : List Int), i + d = bs.length → acc.length ≤ i → d + 41 < k →
    spec_riMoves.l0 k (sb bs) acc i = some (acc ++ canL bs i d) := by
  induction d with
  | zero =>
    intro k i acc hi ha hk
    obtain ⟨k, rfl⟩ : ∃ m, k = m + 1 := ⟨k - 1, by omega⟩
    rw [spec_riMoves.l0, dif_neg (by rw [sb_size]; omega)]; simp [canL]
  | succ d ih =>
    intro k i acc hi ha hk
    obtain ⟨k, rfl⟩ : ∃ m, k = m + 1 := ⟨k - 1, by omega⟩
    have hs : i < (sb bs).size := by rw [sb_size]; omega
    rw [spec_riMoves.l0, dif_pos hs, if_pos (sb_byte hs), riCan h2 (by omega), canI_nat, Option.bind_some, canL_succ]
    by_cases q : M.canM bs i = true
    · rw [if_pos q, if_pos q, if_pos (by omega), ih k (i + 1) _ (by omega) (by simp; omega) (by omega), List.append_assoc]
    · rw [if_neg q, if_neg q, ih k (i + 1) _ (by omega) (by omega) (by omega)]; simp
theorem riMoves {bs : List Bool} {k : Nat} (h2 : bs.length ≤ 40) (hk : bs.length + 41 < k) : spec_riMoves.f k (sb bs) = some (canL bs 0 bs.length) := by
  have := riMoves_l0 h2 bs.length k 0 [] (by omega) (by simp) hk
  simpa [spec_riMoves.f] using this
theorem movesOf_l0 {bs : List Bool} (h2 : bs.length ≤ 40) (d : Nat) : ∀ (k i : Nat) (acc : List Int), i + d = bs.length → acc.length ≤ i → d < k →
    impl_movesOf.l0 k (sb bs) acc (bs.length : Int) (i : Int) = some (acc ++ canL bs i d) := by
  induction d with
  | zero =>
    intro k i acc hi ha hk
    obtain ⟨k, rfl⟩ : ∃ m, k = m + 1 := ⟨k - 1, by omega⟩
    rw [impl_movesOf.l0, if_neg (by omega)]; simp [canL]
  | succ d ih =>
    intro k i acc hi ha hk
    obtain ⟨k, rfl⟩ : ∃ m, k = m + 1 := ⟨k - 1, by omega⟩
    rw [impl_movesOf.l0, if_pos (by omega), canMove h2, canI_nat, Option.bind_some, canL_succ, w64 (x := (i : Int) + 1) (by omega) (by omega), show ((i : Int) + 1) = ((i + 1 : Nat) : Int) by omega]
    by_cases q : M.canM bs i = true
    · rw [if_pos q, if_pos q, if_pos (by omega), ih k (i + 1) _ (by omega) (by simp; omega) (by omega), List.append_assoc]
    · rw [if_neg q, if_neg q, ih k (i + 1) _ (by omega) (by omega) (by omega)]; simp
theorem movesOf {bs : List Bool} {k : Nat} (h2 : bs.length ≤ 40) (hk : bs.length < k) : impl_movesOf.f k (sb bs) = some (canL bs 0 bs.length) := by
  have := movesOf_l0 h2 bs.length k 0 [] (by omega) (by simp) hk
  simpa [impl_movesOf.f, sb_size] using this
theorem flip_get (bs : List Bool) (j i : Nat) : (M.flip bs j)[i]? = if i = j then (bs[i]?).map (!·) else bs[i]? := by
  induction bs generalizing j i with
  | nil => simp [M.flip]
  | cons b r ih =>
    cases j with
    | zero => cases i <;> simp [M.flip]
    | succ j => cases i with
      | zero => simp [M.flip]
      | succ i => simp [M.flip, ih]

/-! lists that are the same -/
theorem ySame_l0 {l : List Int} (hb : l.length ≤ 281474976710656) (d : Nat) : ∀ (k i : Nat), i + d = l.length → d < k → laws_ySame.l0 k l l (l.length : Int) (i : Int) = some true := by
  induction d with
  | zero =>
    intro k i hi hk
    obtain ⟨k, rfl⟩ : ∃ m, k = m + 1 := ⟨k - 1, by omega⟩
    rw [laws_ySame.l0, if_neg (by omega)]
  | succ d ih =>
    intro k i hi hk
    obtain ⟨k, rfl⟩ : ∃ m, k = m + 1 := ⟨k - 1, by omega⟩
    rw [laws_ySame.l0, if_pos (by omega), if_pos (by omega), if_pos (by omega), if_pos (by omega), if_pos rfl, w64 (by omega) (by omega), show ((i : Int) + 1) = ((i + 1 : Nat) : Int) by omega]
    exact ih k (i + 1) (by omega) (by omega)
theorem ySame_self {l : List Int} {k : Nat} (hb : l.length ≤ 281474976710656) (hk : l.length < k) : laws_ySame.f k l l = some true := by
  unfold laws_ySame.f
  rw [if_pos rfl]
  exact ySame_l0 hb l.length k 0 (by omega) hk
theorem yTexts_l0 {l : List ByteArray} (hb : l.length ≤ 281474976710656) (d : Nat) : ∀ (k i : Nat), i + d = l.length → d < k → laws_yTexts.l0 k l l (l.length : Int) (i : Int) = some true := by
  induction d with
  | zero =>
    intro k i hi hk
    obtain ⟨k, rfl⟩ : ∃ m, k = m + 1 := ⟨k - 1, by omega⟩
    rw [laws_yTexts.l0, if_neg (by omega)]
  | succ d ih =>
    intro k i hi hk
    obtain ⟨k, rfl⟩ : ∃ m, k = m + 1 := ⟨k - 1, by omega⟩
    rw [laws_yTexts.l0, if_pos (by omega), if_pos (by omega), if_pos (by omega), if_pos (by omega), if_pos rfl, w64 (by omega) (by omega), show ((i : Int) + 1) = ((i + 1 : Nat) : Int) by omega]
    exact ih k (i + 1) (by omega) (by omega)
theorem yTexts_self {l : List ByteArray} {k : Nat} (hb : l.length ≤ 281474976710656) (hk : l.length < k) : laws_yTexts.f k l l = some true := by
  unfold laws_yTexts.f
  rw [if_pos rfl]
  exact yTexts_l0 hb l.length k 0 (by omega) hk

end Go.Proofs.YtahdlpadcbigaaaDoor.Pure
