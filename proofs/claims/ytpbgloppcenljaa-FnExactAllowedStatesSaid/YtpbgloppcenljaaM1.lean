/- Plain mathematics of reflected numbers and rings, of no program. -/
set_option linter.unusedVariables false
set_option linter.unusedSimpArgs false
namespace Go.Proofs.Ytpbgloppcenljaa
namespace M
theorem xmod (a b : Nat) : (a ^^^ b) % 2 = (a + b) % 2 := by
  have := @Nat.xor_mod_two_eq_one a b; omega
def gray (n : Nat) : Nat := n ^^^ (n / 2)
def inv (g : Nat) : Nat := if g = 0 then 0 else g ^^^ inv (g / 2)
termination_by g
decreasing_by omega
theorem gray_div (n : Nat) : gray n / 2 = gray (n / 2) := by unfold gray; rw [Nat.xor_div_two]
theorem gray_mod (n : Nat) : gray n % 2 = (n + n / 2) % 2 := xmod _ _
theorem inv_zero : inv 0 = 0 := by rw [inv]; simp
theorem inv_eq (g : Nat) : inv g = g ^^^ inv (g / 2) := by
  by_cases h : g = 0
  · subst h; simp [inv_zero]
  · rw [inv, if_neg h]
theorem inv_div (g : Nat) : inv g / 2 = inv (g / 2) := by
  induction g using Nat.strongRecOn with
  | _ g ih =>
    by_cases h : g = 0
    · subst h; simp [inv_zero]
    · rw [inv_eq g, Nat.xor_div_two, ih (g / 2) (by omega), ← inv_eq (g / 2)]
theorem inv_mod (g : Nat) : inv g % 2 = (g + inv (g / 2)) % 2 := by rw [inv_eq g]; exact xmod _ _
theorem inv_gray (n : Nat) : inv (gray n) = n := by
  induction n using Nat.strongRecOn with
  | _ n ih =>
    by_cases h : n = 0
    · subst h; simp [gray, inv_zero]
    · have h1 := inv_div (gray n)
      have h2 := inv_mod (gray n)
      rw [gray_div, ih (n / 2) (by omega)] at h1 h2
      have := gray_mod n
      omega
theorem gray_inv (g : Nat) : gray (inv g) = g := by
  induction g using Nat.strongRecOn with
  | _ g ih =>
    by_cases h : g = 0
    · subst h; simp [inv_zero, gray]
    · have h1 := gray_div (inv g)
      have h2 := gray_mod (inv g)
      rw [inv_div, ih (g / 2) (by omega)] at h1
      rw [inv_div] at h2
      have := inv_mod g
      omega
theorem gray_divs (n k : Nat) : gray n / 2 ^ k = gray (n / 2 ^ k) := by
  unfold gray; rw [Nat.xor_div_two_pow, Nat.div_div_eq_div_mul, Nat.div_div_eq_div_mul, Nat.mul_comm]
theorem gray_lt {n r : Nat} (h : n < 2 ^ r) : gray n < 2 ^ r := by
  unfold gray; exact Nat.xor_lt_two_pow h (Nat.lt_of_le_of_lt (Nat.div_le_self _ _) h)
theorem inv_lt {g r : Nat} (h : g < 2 ^ r) : inv g < 2 ^ r := by
  induction r generalizing g with
  | zero => have : g = 0 := by simp at h; omega
            subst this; simp [inv_zero]
  | succ r ih =>
    have := ih (g := g / 2) (by rw [Nat.pow_succ] at h; omega)
    rw [← inv_div] at this
    rw [Nat.pow_succ]; omega

def b2 (b : Bool) : Nat := if b then 1 else 0
def st : Nat → Nat → List Bool
  | 0, _ => []
  | r + 1, n => decide ((n + n / 2) % 2 = 1) :: st r (n / 2)
def num : List Bool → Nat
  | [] => 0
  | b :: r => 2 * num r + (b2 b + num r) % 2
def val : List Bool → Nat
  | [] => 0
  | b :: r => b2 b + 2 * val r
theorem b2_le (b : Bool) : b2 b ≤ 1 := by cases b <;> decide
theorem val_lt (bs : List Bool) : val bs < 2 ^ bs.length := by
  induction bs with
  | nil => simp [val]
  | cons b r ih => have := b2_le b; simp only [val, List.length_cons, Nat.pow_succ]; omega
theorem inv_val (bs : List Bool) : inv (val bs) = num bs := by
  induction bs with
  | nil => simp [val, num, inv_zero]
  | cons b r ih =>
    have h1 := inv_div (val (b :: r))
    have h2 := inv_mod (val (b :: r))
    have hb := b2_le b
    have e : val (b :: r) / 2 = val r := by simp only [val]; omega
    have e2 : val (b :: r) = b2 b + 2 * val r := rfl
    rw [e, ih] at h1 h2
    have : num (b :: r) = 2 * num r + (b2 b + num r) % 2 := rfl
    omega
theorem num_lt (bs : List Bool) : num bs < 2 ^ bs.length := by rw [← inv_val]; exact inv_lt (val_lt bs)
theorem st_length (r n : Nat) : (st r n).length = r := by
  induction r generalizing n with
  | zero => rfl
  | succ r ih => simp [st, ih]
theorem num_st {r n : Nat} (h : n < 2 ^ r) : num (st r n) = n := by
  induction r generalizing n with
  | zero => simp at h; subst h; rfl
  | succ r ih =>
    have := ih (n := n / 2) (by rw [Nat.pow_succ] at h; omega)
    simp only [st, num, this, b2]
    by_cases e : (n + n / 2) % 2 = 1 <;> simp [e] <;> omega
theorem st_num (bs : List Bool) : st bs.length (num bs) = bs := by
  induction bs with
  | nil => rfl
  | cons b r ih =>
    have hb := b2_le b
    have e : num (b :: r) / 2 = num r := by simp only [num]; omega
    have e2 : num (b :: r) = 2 * num r + (b2 b + num r) % 2 := rfl
    simp only [List.length_cons, st, e, ih]
    congr 1
    cases b <;> simp [b2] at e2 ⊢ <;> omega
theorem num_inj {a b : List Bool} (hl : a.length = b.length) (h : num a = num b) : a = b := by
  rw [← st_num a, ← st_num b, hl, h]
theorem st_get {r n k : Nat} (h : k < r) : (st r n)[k]? = some (decide ((n / 2 ^ k + n / 2 ^ (k + 1)) % 2 = 1)) := by
  induction r generalizing n k with
  | zero => omega
  | succ r ih =>
    cases k with
    | zero => simp [st]
    | succ k =>
      simp only [st, List.getElem?_cons_succ]
      rw [ih (by omega), Nat.div_div_eq_div_mul, Nat.div_div_eq_div_mul, Nat.pow_succ 2 k, Nat.pow_succ 2 (k + 1), Nat.mul_comm 2, Nat.mul_comm 2, Nat.pow_succ]

/-- how often a positive number can be halved -/
def ctz (n : Nat) : Nat := if n = 0 then 0 else if n % 2 = 0 then ctz (n / 2) + 1 else 0
termination_by n
decreasing_by omega
theorem ctz_odd {n : Nat} (h : n % 2 = 1) : ctz n = 0 := by rw [ctz]; simp [h]
theorem ctz_even {n : Nat} (h0 : 0 < n) (h : n % 2 = 0) : ctz n = ctz (n / 2) + 1 := by rw [ctz, if_neg (by omega), if_pos h]
theorem ctz_double {m : Nat} (h0 : 0 < m) : ctz (2 * m) = ctz m + 1 := by
  rw [ctz_even (by omega) (by omega)]; congr 2; omega
theorem ctz_lt {n r : Nat} (h0 : 0 < n) (h : n < 2 ^ r) : ctz n < r := by
  induction r generalizing n with
  | zero => simp at h; omega
  | succ r ih =>
    by_cases e : n % 2 = 0
    · have := ih (n := n / 2) (by omega) (by rw [Nat.pow_succ] at h; omega)
      rw [ctz_even h0 e]; omega
    · rw [ctz_odd (by omega)]; omega

def flip : List Bool → Nat → List Bool
  | [], _ => []
  | b :: r, 0 => (!b) :: r
  | b :: r, k + 1 => b :: flip r k
def canM : List Bool → Nat → Bool
  | [], k => decide (k = 0)
  | _ :: _, 0 => true
  | b :: r, 1 => b && !r.isEmpty
  | b :: r, k + 2 => !b && canM r (k + 1)
theorem flip_length (bs : List Bool) (k : Nat) : (flip bs k).length = bs.length := by
  induction bs generalizing k with
  | nil => rfl
  | cons b r ih => cases k <;> simp [flip, ih]
theorem flip_flip (bs : List Bool) (k : Nat) : flip (flip bs k) k = bs := by
  induction bs generalizing k with
  | nil => rfl
  | cons b r ih => cases k <;> simp [flip, ih]
theorem flip_up {r n : Nat} (h : n + 1 < 2 ^ r) : flip (st r n) (ctz (n + 1)) = st r (n + 1) := by
  induction r generalizing n with
  | zero => simp at h
  | succ r ih =>
    by_cases e : n % 2 = 0
    · rw [ctz_odd (by omega)]
      have e2 : (n + 1) / 2 = n / 2 := by omega
      simp only [st, flip, e2]
      congr 1
      by_cases q : (n + n / 2) % 2 = 1
      · have : ¬ (n + 1 + n / 2) % 2 = 1 := by omega
        simp [q, this]
      · have : (n + 1 + n / 2) % 2 = 1 := by omega
        simp [q, this]
    · have e2 : (n + 1) / 2 = n / 2 + 1 := by omega
      rw [ctz_even (by omega) (by omega), e2]
      simp only [st, flip, e2]
      rw [ih (by rw [Nat.pow_succ] at h; omega)]
      congr 1
      have : (n + 1 + (n / 2 + 1)) % 2 = (n + n / 2) % 2 := by omega
      rw [this]
theorem flip_down {r n : Nat} (h0 : 0 < n) (h : n < 2 ^ r) : flip (st r n) (ctz n) = st r (n - 1) := by
  have := flip_up (r := r) (n := n - 1) (by omega)
  rw [show n - 1 + 1 = n by omega] at this
  rw [← this, flip_flip]
theorem can_zero (bs : List Bool) : canM bs 0 = true := by cases bs <;> rfl
theorem can_up {r n : Nat} (h : n + 1 < 2 ^ r) : canM (st r n) (ctz (n + 1)) = true ∧ canM (st r (n + 1)) (ctz (n + 1)) = true := by
  induction r generalizing n with
  | zero => simp at h
  | succ r ih =>
    by_cases e : n % 2 = 0
    · rw [ctz_odd (by omega)]; exact ⟨can_zero _, can_zero _⟩
    · have e2 : (n + 1) / 2 = n / 2 + 1 := by omega
      rw [ctz_even (by omega) (by omega), e2]
      have hr : n / 2 + 1 < 2 ^ r := by rw [Nat.pow_succ] at h; omega
      have := ih hr
      simp only [st, e2]
      by_cases q : (n / 2 + 1) % 2 = 1
      · rw [ctz_odd q]
        have hne : r ≠ 0 := by rintro rfl; simp at hr
        have l1 : (st r (n / 2)).isEmpty = false := by
          have := st_length r (n / 2)
          cases hc : st r (n / 2) with
          | nil => rw [hc] at this; simp at this; omega
          | cons => rfl
        have l2 : (st r (n / 2 + 1)).isEmpty = false := by
          have := st_length r (n / 2 + 1)
          cases hc : st r (n / 2 + 1) with
          | nil => rw [hc] at this; simp at this; omega
          | cons => rfl
        have a1 : (n + n / 2) % 2 = 1 := by omega
        have a2 : (n + 1 + (n / 2 + 1)) % 2 = 1 := by omega
        simp [canM, l1, l2, a1, a2]
      · obtain ⟨c, hc⟩ : ∃ c, ctz (n / 2 + 1) = c + 1 := ⟨ctz ((n / 2 + 1) / 2), ctz_even (by omega) (by omega)⟩
        rw [hc] at this ⊢
        have a1 : ¬ (n + n / 2) % 2 = 1 := by omega
        have a2 : ¬ (n + 1 + (n / 2 + 1)) % 2 = 1 := by omega
        simp [canM, a1, a2, this]
theorem can_down {r n : Nat} (h0 : 0 < n) (h : n < 2 ^ r) : canM (st r n) (ctz n) = true := by
  have := (can_up (r := r) (n := n - 1) (by omega)).2
  rwa [show n - 1 + 1 = n by omega] at this
theorem can_only {r n k : Nat} (hr : 1 ≤ r) (h : n < 2 ^ r) (hc : canM (st r n) k = true) : (n + 1 < 2 ^ r ∧ k = ctz (n + 1)) ∨ (0 < n ∧ k = ctz n) := by
  induction r generalizing n k with
  | zero => omega
  | succ r ih =>
    have hp := Nat.two_pow_pos r
    rw [Nat.pow_succ] at h ⊢
    match k with
    | 0 =>
      by_cases e : n % 2 = 0
      · left; exact ⟨by omega, (ctz_odd (by omega)).symm⟩
      · right; exact ⟨by omega, (ctz_odd (by omega)).symm⟩
    | 1 =>
      simp only [st, canM, Bool.and_eq_true, decide_eq_true_eq] at hc
      obtain ⟨h1, h2⟩ := hc
      have hr0 : r ≠ 0 := by rintro rfl; simp [st] at h2
      obtain ⟨q, rfl⟩ : ∃ q, r = q + 1 := ⟨r - 1, by omega⟩
      rw [Nat.pow_succ] at h ⊢
      have hq := Nat.two_pow_pos q
      by_cases e : n % 2 = 0
      · right; refine ⟨by omega, ?_⟩
        rw [ctz_even (by omega) e, ctz_odd (by omega)]
      · left; refine ⟨by omega, ?_⟩
        rw [ctz_even (by omega) (by omega), ctz_odd (by omega)]
    | k + 2 =>
      simp only [st, canM, Bool.and_eq_true, Bool.not_eq_true', decide_eq_false_iff_not] at hc
      obtain ⟨h1, h2⟩ := hc
      have hr1 : 1 ≤ r := by
        rcases r with _ | r
        · simp [st, canM] at h2
        · omega
      rcases ih hr1 (by omega) h2 with ⟨h3, h4⟩ | ⟨h3, h4⟩
      · have : (n / 2 + 1) % 2 = 0 := by
          by_cases z : (n / 2 + 1) % 2 = 0
          · exact z
          · rw [ctz_odd (by omega)] at h4; omega
        left; refine ⟨by omega, ?_⟩
        rw [ctz_even (by omega) (by omega), show (n + 1) / 2 = n / 2 + 1 by omega, ← h4]
      · have : (n / 2) % 2 = 0 := by
          by_cases z : (n / 2) % 2 = 0
          · exact z
          · rw [ctz_odd (by omega)] at h4; omega
        right; refine ⟨by omega, ?_⟩
        rw [ctz_even (by omega) (by omega), ← h4]
theorem num_flip {bs : List Bool} {k : Nat} (hb : bs ≠ []) (hc : canM bs k = true) :
    (num bs + 1 < 2 ^ bs.length ∧ k = ctz (num bs + 1) ∧ num (flip bs k) = num bs + 1) ∨ (0 < num bs ∧ k = ctz (num bs) ∧ num (flip bs k) = num bs - 1) := by
  have hl : 1 ≤ bs.length := List.length_pos_iff.2 hb
  have hn := num_lt bs
  have e := st_num bs
  have hc' := hc
  rw [← e] at hc'
  rcases can_only hl hn hc' with ⟨h1, h2⟩ | ⟨h1, h2⟩
  · left
    have := flip_up h1
    rw [e, ← h2] at this
    exact ⟨h1, h2, by rw [this, num_st h1]⟩
  · right
    have := flip_down h1 hn
    rw [e, ← h2] at this
    exact ⟨h1, h2, by rw [this, num_st (by omega)]⟩

/-- how many of 1, .., n can be halved just k times -/
def cnt (k n : Nat) : Nat := n / 2 ^ k - n / 2 ^ (k + 1)
theorem div_pow_succ (n k : Nat) : n / 2 ^ (k + 1) = n / 2 / 2 ^ k := by rw [Nat.div_div_eq_div_mul, Nat.pow_succ, Nat.mul_comm]
theorem div_pow_succ' (n k : Nat) : n / 2 ^ (k + 1) = n / 2 ^ k / 2 := by rw [Nat.div_div_eq_div_mul, Nat.pow_succ]
theorem cnt_half (k n : Nat) : cnt (k + 1) n = cnt k (n / 2) := by
  unfold cnt; rw [div_pow_succ n k, div_pow_succ n (k + 1)]
theorem cnt_succ (k n : Nat) : cnt k (n + 1) = cnt k n + (if ctz (n + 1) = k then 1 else 0) := by
  induction k generalizing n with
  | zero =>
    unfold cnt
    simp only [Nat.pow_zero, Nat.div_one, Nat.zero_add, Nat.pow_one]
    by_cases e : n % 2 = 0
    · rw [ctz_odd (by omega), if_pos rfl]; omega
    · rw [ctz_even (by omega) (by omega), if_neg (by omega)]; omega
  | succ k ih =>
    rw [cnt_half, cnt_half]
    by_cases e : n % 2 = 0
    · rw [ctz_odd (by omega), if_neg (by omega), show (n + 1) / 2 = n / 2 by omega]; rfl
    · rw [ctz_even (by omega) (by omega), show (n + 1) / 2 = n / 2 + 1 by omega, ih]
      congr 1
      by_cases q : ctz (n / 2 + 1) = k
      · rw [if_pos q, if_pos (by omega)]
      · rw [if_neg q, if_neg (by omega)]
theorem cnt_le (k : Nat) {a b : Nat} (h : a ≤ b) : cnt k a ≤ cnt k b := by
  induction b with
  | zero => have : a = 0 := by omega
            subst this; exact Nat.le_refl _
  | succ b ih =>
    by_cases e : a = b + 1
    · subst e; exact Nat.le_refl _
    · rw [cnt_succ]; have := ih (by omega); omega
theorem cnt_le_self (k n : Nat) : cnt k n ≤ n := by
  unfold cnt; exact Nat.le_trans (Nat.sub_le _ _) (Nat.div_le_self _ _)
/-- the rings moved from number a to number b -/
def ups : Nat → Nat → List Nat
  | _, 0 => []
  | a, d + 1 => ctz (a + 1) :: ups (a + 1) d
theorem ups_count (k a d : Nat) : (ups a d).count k + cnt k a = cnt k (a + d) := by
  induction d generalizing a with
  | zero => simp [ups]
  | succ d ih =>
    have := ih (a + 1)
    rw [show a + 1 + d = a + (d + 1) by omega, cnt_succ] at this
    simp only [ups, List.count_cons]
    by_cases q : ctz (a + 1) = k
    · rw [if_pos q] at this; simp only [q, beq_self_eq_true, if_true]; omega
    · rw [if_neg q] at this; simp only [beq_eq_false_iff_ne.2 q, if_false, Bool.false_eq_true]; omega
def downs : Nat → Nat → List Nat
  | _, 0 => []
  | a, d + 1 => ctz a :: downs (a - 1) d
theorem downs_count (k a d : Nat) (h : d ≤ a) : (downs a d).count k + cnt k (a - d) = cnt k a := by
  induction d generalizing a with
  | zero => simp [downs]
  | succ d ih =>
    have := ih (a - 1) (by omega)
    rw [show a - 1 - d = a - (d + 1) by omega] at this
    have hs := cnt_succ k (a - 1)
    rw [show a - 1 + 1 = a by omega] at hs
    simp only [downs, List.count_cons]
    by_cases q : ctz a = k
    · rw [if_pos q] at hs; simp only [q, beq_self_eq_true, if_true]; omega
    · rw [if_neg q] at hs; simp only [beq_eq_false_iff_ne.2 q, if_false, Bool.false_eq_true]; omega
theorem ups_length (a d : Nat) : (ups a d).length = d := by
  induction d generalizing a with
  | zero => rfl
  | succ d ih => simp [ups, ih]
theorem downs_length (a d : Nat) : (downs a d).length = d := by
  induction d generalizing a with
  | zero => rfl
  | succ d ih => simp [downs, ih]
theorem cnt_sum (r n : Nat) : ((List.range r).map fun k => cnt k n).sum = n - n / 2 ^ r := by
  induction r with
  | zero => simp
  | succ r ih =>
    rw [List.range_succ, List.map_append, List.sum_append, ih]
    simp only [List.map_cons, List.map_nil, List.sum_cons, List.sum_nil, cnt]
    have h1 := Nat.div_le_self n (2 ^ r)
    have h2 : n / 2 ^ (r + 1) ≤ n / 2 ^ r := by rw [div_pow_succ']; exact Nat.div_le_self _ _
    generalize n / 2 ^ r = x at *
    generalize n / 2 ^ (r + 1) = y at *
    omega
theorem num_ones (r : Nat) : num (List.replicate r true) = 2 ^ (r + 1) / 3 := by
  have key : ∀ r, (2 ^ (r + 1) % 3 = if r % 2 = 0 then 2 else 1) := by
    intro r
    induction r with
    | zero => rfl
    | succ r ih => rw [Nat.pow_succ]; split at ih <;> split <;> omega
  induction r with
  | zero => rfl
  | succ r ih =>
    have k := key r
    have hn : num (List.replicate (r + 1) true) = 2 * num (List.replicate r true) + (1 + num (List.replicate r true)) % 2 := rfl
    have hpar : 2 ^ (r + 1) % 2 = 0 := by rw [Nat.pow_succ]; omega
    rw [hn, ih, Nat.pow_succ 2 (r + 1)]
    split at k <;> omega
end M

end Go.Proofs.Ytpbgloppcenljaa
