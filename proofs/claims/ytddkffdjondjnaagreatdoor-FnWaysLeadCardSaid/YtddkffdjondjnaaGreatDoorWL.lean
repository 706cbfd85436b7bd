-- written by a program of this session's over the kit's print (xp.py)
import Derived.Test.YtddkffdjondjnaaGreatDoorAx1
import Derived.Test.YtddkffdjondjnaaGreatDoorAx2
import Derived.Test.YtddkffdjondjnaaGreatDoorAx3
import Derived.Test.YtddkffdjondjnaaGreatDoorAx4
import Derived.Test.YtddkffdjondjnaaGreatDoorAx5
import Derived.Test.YtddkffdjondjnaaGreatDoorWay
set_option linter.unusedVariables false
set_option linter.unusedSimpArgs false
namespace Go.Proofs.YtddkffdjondjnaaGreatDoor.Pure
open Go.RowKit Go.Proofs.YtddkffdjondjnaaGreatDoor.A Go.Proofs.YtddkffdjondjnaaGreatDoorW.PrintWords Go.Proofs.YtddkffdjondjnaaGreatDoorW.PrintLast Go.Proofs.YtddkffdjondjnaaGreatDoorW.PrintMore

theorem two_st {r n m k : Nat} (h1 : 1 ≤ r) (h2 : r ≤ 20) (hk : 20 < k) : spec_riTwo.f k (sb (M.st r n)) (sb (M.st r m)) = some true ∧ impl_alike.f (sb (M.st r n)) (sb (M.st r m)) = some true := by
  obtain ⟨g1, g2⟩ := two_sb (a := M.st r n) (b := M.st r m) (k := k) (by rw [M.st_length]; omega) (by rw [M.st_length]; omega) hk
  rw [M.st_length, M.st_length, beq_self_eq_true] at g1 g2
  exact ⟨g1, g2⟩
theorem nums_st {r n k : Nat} (h2 : r ≤ 20) (hn : n < 2 ^ r) (hk : 62 < k) : spec_riNumber.f k (sb (M.st r n)) = some (n : Int) ∧ impl_number.f k (sb (M.st r n)) = some (n : Int) := by
  have g1 := riNumber (bs := M.st r n) (k := k) (by rw [M.st_length]; omega) (by omega)
  have g2 := number (bs := M.st r n) (k := k) (by rw [M.st_length]; omega) hk
  rw [M.num_st hn] at g1 g2
  exact ⟨g1, g2⟩
theorem pow20 {r : Nat} (h : r ≤ 20) : 2 ^ r ≤ 2 ^ 40 := Nat.pow_le_pow_right (by decide) (by omega)
theorem dst_lt {r n m : Nat} (hn : n < 2 ^ r) (hm : m < 2 ^ r) : dst n m < 2 ^ r := by unfold dst; split <;> omega
theorem dst_comm (n m : Nat) : dst n m = dst m n := by unfold dst; split <;> split <;> omega
theorem few_st {r n m k : Nat} (h1 : 1 ≤ r) (h2 : r ≤ 20) (hn : n < 2 ^ r) (hm : m < 2 ^ r) (hk : 62 < k) :
    spec_FewestMoves.f k (sb (M.st r n)) (sb (M.st r m)) = some ((dst n m : Int), true) ∧ impl_FewestMoves.f k (sb (M.st r n)) (sb (M.st r m)) = some ((dst n m : Int), true) := by
  have hp := pow20 h2
  obtain ⟨t1, t2⟩ := two_st (n := n) (m := m) (k := k) h1 h2 (by omega)
  obtain ⟨a1, a2⟩ := nums_st (k := k) h2 hn hk
  obtain ⟨b1, b2⟩ := nums_st (k := k) h2 hm hk
  obtain ⟨d1, d2⟩ := apart_dst (n := n) (m := m) (by omega) (by omega)
  unfold spec_FewestMoves.f impl_FewestMoves.f
  rw [t1, t2, a1, a2, b1, b2]
  simp only [Option.bind_some, if_true, d1, d2]
  exact ⟨trivial, trivial⟩
theorem nm_ne {r n m k : Nat} (h1 : 1 ≤ r) (h2 : r ≤ 20) (hn : n < 2 ^ r) (hm : m < 2 ^ r) (hne : n ≠ m) (hk : 90 < k) :
    spec_NextMove.f k (sb (M.st r n)) (sb (M.st r m)) = some ((rng n m : Int), true) ∧ impl_NextMove.f k (sb (M.st r n)) (sb (M.st r m)) = some ((rng n m : Int), true) := by
  have hp := pow20 h2
  obtain ⟨k, rfl⟩ : ∃ q, k = q + 1 := ⟨k - 1, by omega⟩
  obtain ⟨t1, t2⟩ := two_st (n := n) (m := m) (k := k + 1) h1 h2 (by omega)
  have a2 := (nums_st (k := k) h2 hn (by omega)).2
  have b2 := (nums_st (k := k) h2 hm (by omega)).2
  have e : ((sb (M.st r n)).toList == (sb (M.st r m)).toList) = false := by
    rw [beq_eq_false_iff_ne]; exact fun h => hne ((st_eq hn hm).1 h)
  unfold spec_NextMove.f impl_NextMove.f
  rw [t1, t2, Option.bind_some, Option.bind_some, if_pos rfl, if_pos rfl, e, spec_NextMove.j0, impl_NextMove.j0, if_neg (by decide), if_neg (by decide), a2, b2, riNext_st (by omega) hn hm hne (by omega)]
  simp only [Option.bind_some]
  rw [riDiffers_st hn hm hne (by omega), next (by omega) (by omega) hne (by omega)]
  exact ⟨rfl, rfl⟩
theorem nm_eq {r n k : Nat} (h1 : 1 ≤ r) (h2 : r ≤ 20) (hk : 90 < k) :
    spec_NextMove.f k (sb (M.st r n)) (sb (M.st r n)) = some (0, false) ∧ impl_NextMove.f k (sb (M.st r n)) (sb (M.st r n)) = some (0, false) := by
  obtain ⟨k, rfl⟩ : ∃ q, k = q + 1 := ⟨k - 1, by omega⟩
  obtain ⟨t1, t2⟩ := two_st (n := n) (m := n) (k := k + 1) h1 h2 (by omega)
  unfold spec_NextMove.f impl_NextMove.f
  rw [t1, t2, Option.bind_some, Option.bind_some, if_pos rfl, if_pos rfl, beq_self_eq_true, spec_NextMove.j0, impl_NextMove.j0, if_pos rfl, if_pos rfl]
  exact ⟨rfl, rfl⟩
theorem way_in {r n m k : Nat} (h1 : 1 ≤ r) (h2 : r ≤ 20) (hn : n < 2 ^ r) (hm : m < 2 ^ r) (hd : dst n m ≤ 2000) (hk : 3000 < k) :
    spec_WayTo.f k (sb (M.st r n)) (sb (M.st r m)) = some (wayL (dst n m) n m, true) ∧ impl_WayTo.f k (sb (M.st r n)) (sb (M.st r m)) = some (wayL (dst n m) n m, true) := by
  have hp := pow20 h2
  obtain ⟨k, rfl⟩ : ∃ q, k = q + 1 := ⟨k - 1, by omega⟩
  obtain ⟨t1, t2⟩ := two_st (n := n) (m := m) (k := k + 1) h1 h2 (by omega)
  obtain ⟨a1, a2⟩ := nums_st (k := k + 1) h2 hn (by omega)
  obtain ⟨b1, b2⟩ := nums_st (k := k + 1) h2 hm (by omega)
  have a3 := (nums_st (k := k) h2 hn (by omega)).2
  have b3 := (nums_st (k := k) h2 hm (by omega)).2
  obtain ⟨d1, d2⟩ := apart_dst (n := n) (m := m) (by omega) (by omega)
  unfold spec_WayTo.f impl_WayTo.f
  rw [t1, t2, a1, a2, b1, b2]
  simp only [Option.bind_some, if_true, d1, d2]
  rw [decide_eq_false (by omega), spec_WayTo.j0, impl_WayTo.j0, if_neg (by decide), if_neg (by decide), a3, b3]
  simp only [Option.bind_some]
  have g1 := specWay_l0 (r := r) (by omega) hm (dst n m) k n [] hn rfl (by simp; omega) (by omega)
  have g2 := implWay_l0 (r := r) (by omega) hm (dst n m) k n [] hn rfl (by simp; omega) (by omega)
  exact ⟨g1, g2⟩
theorem way_out {r n m k : Nat} (h1 : 1 ≤ r) (h2 : r ≤ 20) (hn : n < 2 ^ r) (hm : m < 2 ^ r) (hd : ¬ dst n m ≤ 2000) (hk : 3000 < k) :
    spec_WayTo.f k (sb (M.st r n)) (sb (M.st r m)) = some ([], false) ∧ impl_WayTo.f k (sb (M.st r n)) (sb (M.st r m)) = some ([], false) := by
  have hp := pow20 h2
  obtain ⟨k, rfl⟩ : ∃ q, k = q + 1 := ⟨k - 1, by omega⟩
  obtain ⟨t1, t2⟩ := two_st (n := n) (m := m) (k := k + 1) h1 h2 (by omega)
  obtain ⟨a1, a2⟩ := nums_st (k := k + 1) h2 hn (by omega)
  obtain ⟨b1, b2⟩ := nums_st (k := k + 1) h2 hm (by omega)
  obtain ⟨d1, d2⟩ := apart_dst (n := n) (m := m) (by omega) (by omega)
  unfold spec_WayTo.f impl_WayTo.f
  rw [t1, t2, a1, a2, b1, b2]
  simp only [Option.bind_some, if_true, d1, d2]
  rw [decide_eq_true (by omega), spec_WayTo.j0, impl_WayTo.j0, if_pos rfl, if_pos rfl]
  exact ⟨rfl, rfl⟩
theorem bet_in {r n m k : Nat} (h1 : 1 ≤ r) (h2 : r ≤ 20) (hn : n < 2 ^ r) (hm : m < 2 ^ r) (hd : dst n m < 2000) (hk : 3000 < k) :
    spec_StatesBetween.f k (sb (M.st r n)) (sb (M.st r m)) = some (sb (M.st r n) :: betL r (dst n m) n m, true) ∧ impl_StatesBetween.f k (sb (M.st r n)) (sb (M.st r m)) = some (sb (M.st r n) :: betL r (dst n m) n m, true) := by
  have hp := pow20 h2
  obtain ⟨k, rfl⟩ : ∃ q, k = q + 1 := ⟨k - 1, by omega⟩
  obtain ⟨t1, t2⟩ := two_st (n := n) (m := m) (k := k + 1) h1 h2 (by omega)
  obtain ⟨a1, a2⟩ := nums_st (k := k + 1) h2 hn (by omega)
  obtain ⟨b1, b2⟩ := nums_st (k := k + 1) h2 hm (by omega)
  have a3 := (nums_st (k := k) h2 hn (by omega)).2
  have b3 := (nums_st (k := k) h2 hm (by omega)).2
  obtain ⟨d1, d2⟩ := apart_dst (n := n) (m := m) (by omega) (by omega)
  rw [specSB t1 a1 b1 d2 (w64 (by omega) (by omega)), implSB t2 a2 b2 d1 (w64 (by omega) (by omega)), decide_eq_false (by omega), spec_StatesBetween.j0, impl_StatesBetween.j0, if_neg (by decide), if_neg (by decide), a3, b3]
  simp only [Option.bind_some]
  have g1 := specBet_l0 (r := r) (by omega) hm (dst n m) k n [sb (M.st r n)] hn rfl (by simp; omega) (by omega)
  have g2 := implBet_l0 (r := r) (by omega) hm (x := sb (M.st r n)) (by rw [sb_size, M.st_length]) (dst n m) k n [sb (M.st r n)] hn rfl (by simp; omega) (by omega)
  exact ⟨g1, g2⟩
theorem bet_out {r n m k : Nat} (h1 : 1 ≤ r) (h2 : r ≤ 20) (hn : n < 2 ^ r) (hm : m < 2 ^ r) (hd : ¬ dst n m < 2000) (hk : 3000 < k) :
    spec_StatesBetween.f k (sb (M.st r n)) (sb (M.st r m)) = some ([], false) ∧ impl_StatesBetween.f k (sb (M.st r n)) (sb (M.st r m)) = some ([], false) := by
  have hp := pow20 h2
  have hq := dst_lt hn hm
  obtain ⟨k, rfl⟩ : ∃ q, k = q + 1 := ⟨k - 1, by omega⟩
  obtain ⟨t1, t2⟩ := two_st (n := n) (m := m) (k := k + 1) h1 h2 (by omega)
  obtain ⟨a1, a2⟩ := nums_st (k := k + 1) h2 hn (by omega)
  obtain ⟨b1, b2⟩ := nums_st (k := k + 1) h2 hm (by omega)
  obtain ⟨d1, d2⟩ := apart_dst (n := n) (m := m) (by omega) (by omega)
  rw [specSB t1 a1 b1 d2 (w64 (by omega) (by omega)), implSB t2 a2 b2 d1 (w64 (by omega) (by omega)), decide_eq_true (by omega), spec_StatesBetween.j0, impl_StatesBetween.j0, if_pos rfl, if_pos rfl]
  exact ⟨rfl, rfl⟩
/-- the number in the middle -/
def mid (n m : Nat) : Nat := if n < m then n + (m - n) / 2 else n - (n - m) / 2
theorem mid_lt {r n m : Nat} (hn : n < 2 ^ r) (hm : m < 2 ^ r) : mid n m < 2 ^ r := by unfold mid; split <;> omega
theorem dst_mid (n m : Nat) : dst n (mid n m) = dst n m / 2 ∧ dst (mid n m) m = dst n m - dst n m / 2 := by
  unfold mid dst
  by_cases q : n < m
  · rw [if_pos q, if_pos q]
    constructor <;> split <;> omega
  · rw [if_neg q, if_neg q]
    constructor <;> split <;> omega
theorem mid_st {r n m k : Nat} (h1 : 1 ≤ r) (h2 : r ≤ 20) (hn : n < 2 ^ r) (hm : m < 2 ^ r) (hk : 62 < k) :
    spec_MiddleOf.f k (sb (M.st r n)) (sb (M.st r m)) = some (sb (M.st r (mid n m)), true) ∧ impl_MiddleOf.f k (sb (M.st r n)) (sb (M.st r m)) = some (sb (M.st r (mid n m)), true) := by
  have hp := pow20 h2
  obtain ⟨t1, t2⟩ := two_st (n := n) (m := m) (k := k) h1 h2 (by omega)
  obtain ⟨a1, a2⟩ := nums_st (k := k) h2 hn hk
  obtain ⟨b1, b2⟩ := nums_st (k := k) h2 hm hk
  obtain ⟨d1, d2⟩ := apart_dst (n := n) (m := m) (by omega) (by omega)
  unfold spec_MiddleOf.f impl_MiddleOf.f
  rw [t1, t2, a1, a2, b1, b2]
  simp only [Option.bind_some, if_true, d1, sb_size, M.st_length]
  have hl := mid_lt hn hm
  have s1 := riState (r := r) (n := mid n m) (k := k) (by omega) (by omega) (by omega)
  have s2 := state (r := r) (n := mid n m) (k := k) (by omega) (by omega) (by omega)
  rw [w64 (x := (m : Int) - (n : Int)) (by omega) (by omega)]
  by_cases q : n < m
  · have e1 : wrap64 ((n : Int) + wrap64 (Int.tdiv ((m : Int) - (n : Int)) 2)) = ((mid n m : Nat) : Int) := by
      unfold mid; rw [if_pos q, tdiv2 (by omega) (by omega), w64 (by omega) (by omega)]; omega
    have e2 : wrap64 ((n : Int) + wrap64 (Int.tdiv ((dst n m : Nat) : Int) 2)) = ((mid n m : Nat) : Int) := by
      unfold mid dst; rw [if_pos q, if_pos q, tdiv2 (by omega) (by omega), w64 (by omega) (by omega)]; omega
    rw [e1, e2, if_pos (Int.ofNat_lt.2 q), s1, s2]
    exact ⟨rfl, rfl⟩
  · have e0 : Int.tdiv ((m : Int) - (n : Int)) 2 = -(((n - m) / 2 : Nat) : Int) := by
      rw [show (m : Int) - (n : Int) = -((n - m : Nat) : Int) by omega, Int.neg_tdiv, Int.tdiv_eq_ediv_of_nonneg (by omega)]; omega
    have e1 : wrap64 ((n : Int) + wrap64 (Int.tdiv ((m : Int) - (n : Int)) 2)) = ((mid n m : Nat) : Int) := by
      unfold mid; rw [if_neg q, e0, w64 (x := -(((n - m) / 2 : Nat) : Int)) (by omega) (by omega), w64 (by omega) (by omega)]; omega
    have e2 : wrap64 ((n : Int) - wrap64 (Int.tdiv ((dst n m : Nat) : Int) 2)) = ((mid n m : Nat) : Int) := by
      unfold mid dst; rw [if_neg q, if_neg q, tdiv2 (by omega) (by omega), w64 (by omega) (by omega)]; omega
    rw [e1, e2, if_neg (fun h => q (Int.ofNat_lt.1 h)), s1, s2]
    exact ⟨rfl, rfl⟩
/-- how often a ring is moved -/
def tmv (n m i : Nat) : Nat := M.cnt i (max n m) - M.cnt i (min n m)
def tml (r n m : Nat) : List Int := (List.range r).map fun i => (tmv n m i : Int)
theorem tml_length (r n m : Nat) : (tml r n m).length = r := by simp [tml]
theorem tml_comm (r n m : Nat) : tml r n m = tml r m n := by unfold tml tmv; rw [Nat.max_comm, Nat.min_comm]
theorem tml_get {r n m i : Nat} (h : i < r) : (tml r n m)[i]? = some (tmv n m i : Int) := by
  unfold tml; rw [List.getElem?_map, List.getElem?_range h]; rfl
theorem hv_nat {n i : Nat} (hn : n < 2 ^ 40) (hi : i ≤ 30) : hv (n : Int) (i : Int) = (M.cnt i n : Int) := by
  unfold hv M.cnt
  have h1 : n / 2 ^ i ≤ n := Nat.div_le_self _ _
  have h2 : n / 2 ^ (i + 1) ≤ n / 2 ^ i := by rw [M.div_pow_succ']; exact Nat.div_le_self _ _
  rw [w64 (x := (i : Int) + 1) (by omega) (by omega), show (i : Int) + 1 = ((i + 1 : Nat) : Int) by omega, shr_nat (by omega), shr_nat (by omega)]
  generalize n / 2 ^ i = c at *
  generalize n / 2 ^ (i + 1) = d at *
  rw [w64 (by omega) (by omega)]
  omega
theorem dv_nat {n m i : Nat} (hn : n < 2 ^ 40) (hm : m < 2 ^ 40) (hi : i ≤ 30) : dv (mn (n : Int) (m : Int)) (mx (n : Int) (m : Int)) i = (tmv n m i : Int) := by
  have e1 : mn (n : Int) (m : Int) = ((min n m : Nat) : Int) := by unfold mn; split <;> omega
  have e2 : mx (n : Int) (m : Int) = ((max n m : Nat) : Int) := by unfold mx; split <;> omega
  have g1 := M.cnt_le i (a := min n m) (b := max n m) (by omega)
  have g2 := M.cnt_le_self i (max n m)
  unfold dv tmv
  rw [e1, e2, hv_nat (by omega) hi, hv_nat (by omega) hi, w64 (by omega) (by omega)]
  omega
theorem tm_st {r n m k : Nat} (h1 : 1 ≤ r) (h2 : r ≤ 20) (hn : n < 2 ^ r) (hm : m < 2 ^ r) (hk : 90 < k) :
    spec_TimesMoved.f k (sb (M.st r n)) (sb (M.st r m)) = some (tml r n m, true) ∧ impl_TimesMoved.f k (sb (M.st r n)) (sb (M.st r m)) = some (tml r n m, true) := by
  have hp := pow20 h2
  obtain ⟨t1, t2⟩ := two_st (n := n) (m := m) (k := k) h1 h2 (by omega)
  obtain ⟨a1, a2⟩ := nums_st (k := k) h2 hn (by omega)
  obtain ⟨b1, b2⟩ := nums_st (k := k) h2 hm (by omega)
  have et : (List.range' 0 r).map (dv (mn (n : Int) (m : Int)) (mx (n : Int) (m : Int))) = tml r n m := by
    unfold tml
    rw [← List.range_eq_range']
    apply List.map_congr_left
    intro i hi
    have := List.mem_range.1 hi
    exact dv_nat (by omega) (by omega) (by omega)
  unfold spec_TimesMoved.f impl_TimesMoved.f
  rw [t1, t2, a1, a2, b1, b2]
  have e1 : spec_l1Least.f (n : Int) (m : Int) = some (mn (n : Int) (m : Int)) := by
    unfold spec_l1Least.f mn; split <;> split <;> first | rfl | (congr 1; omega)
  have e2 : spec_l1Most.f (n : Int) (m : Int) = some (mx (n : Int) (m : Int)) := by
    unfold spec_l1Most.f mx; split <;> split <;> first | rfl | (congr 1; omega)
  simp only [Option.bind_some, if_true, e1, e2, sb_size, M.st_length, Int.toNat_natCast]
  rw [if_pos (by omega), if_pos (by omega), List.length_replicate]
  have g1 := specTimes_l0 (lo := mn (n : Int) (m : Int)) (hi := mx (n : Int) (m : Int)) (n := r) (by omega) r k 0 (List.replicate r 0) (by omega) (by simp) (by omega)
  have g2 := implTimes_l0 (lo := mn (n : Int) (m : Int)) (hi := mx (n : Int) (m : Int)) (n := r) (by omega) r k 0 [] (by omega) (by simp) (by omega)
  rw [et] at g1 g2
  exact ⟨by simpa using g1, by simpa using g2⟩

end Go.Proofs.YtddkffdjondjnaaGreatDoor.Pure
