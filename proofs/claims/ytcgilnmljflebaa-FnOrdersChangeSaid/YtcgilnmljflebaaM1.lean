/- Plain mathematics of reflected numbers, sets, choices, mixed digits and orders by swaps, of no program. -/
set_option linter.unusedVariables false
set_option linter.unusedSimpArgs false
namespace Go.Proofs.Ytcgilnmljflebaa
namespace M
theorem xmod (a b : Nat) : (a ^^^ b) % 2 = (a + b) % 2 := by
  have := @Nat.xor_mod_two_eq_one a b; omega
def gray (n : Nat) : Nat := n ^^^ (n / 2)
def inv (g : Nat) : Nat := if g = 0 then 0 else g ^^^ inv (g / 2)
termination_by g
decreasing_by omega
theorem gray_mod (n : Nat) : gray n % 2 = (n + n / 2) % 2 := xmod _ _
theorem inv_zero : inv 0 = 0 := by rw [inv]; simp
theorem inv_eq (g : Nat) : inv g = g ^^^ inv (g / 2) := by
  by_cases h : g = 0
  · subst h; simp [inv_zero]
  · rw [inv, if_neg h]
theorem inv_div (g : Nat) : inv g / 2 = inv (g / 2) := by
  induction g using Nat.strongRecOn with
  | _ g ih =>
    by_cases h : g = 0
    · subst h; simp [inv_zero]
    · rw [inv_eq g, Nat.xor_div_two, ih (g / 2) (by omega), ← inv_eq (g / 2)]
theorem inv_mod (g : Nat) : inv g % 2 = (g + inv (g / 2)) % 2 := by rw [inv_eq g]; exact xmod _ _
theorem gray_divs (n k : Nat) : gray n / 2 ^ k = gray (n / 2 ^ k) := by
  unfold gray; rw [Nat.xor_div_two_pow, Nat.div_div_eq_div_mul, Nat.div_div_eq_div_mul, Nat.mul_comm]
theorem gray_lt {n r : Nat} (h : n < 2 ^ r) : gray n < 2 ^ r := by
  unfold gray; exact Nat.xor_lt_two_pow h (Nat.lt_of_le_of_lt (Nat.div_le_self _ _) h)
theorem inv_lt {g r : Nat} (h : g < 2 ^ r) : inv g < 2 ^ r := by
  induction r generalizing g with
  | zero => have : g = 0 := by simp at h; omega
            subst this; simp [inv_zero]
  | succ r ih =>
    have := ih (g := g / 2) (by rw [Nat.pow_succ] at h; omega)
    rw [← inv_div] at this
    rw [Nat.pow_succ]; omega
def b2 (b : Bool) : Nat := if b then 1 else 0
def st : Nat → Nat → List Bool
  | 0, _ => []
  | r + 1, n => decide ((n + n / 2) % 2 = 1) :: st r (n / 2)
def num : List Bool → Nat
  | [] => 0
  | b :: r => 2 * num r + (b2 b + num r) % 2
def val : List Bool → Nat
  | [] => 0
  | b :: r => b2 b + 2 * val r
theorem b2_le (b : Bool) : b2 b ≤ 1 := by cases b <;> decide
theorem val_lt (bs : List Bool) : val bs < 2 ^ bs.length := by
  induction bs with
  | nil => simp [val]
  | cons b r ih => have := b2_le b; simp only [val, List.length_cons, Nat.pow_succ]; omega
theorem inv_val (bs : List Bool) : inv (val bs) = num bs := by
  induction bs with
  | nil => simp [val, num, inv_zero]
  | cons b r ih =>
    have h1 := inv_div (val (b :: r))
    have h2 := inv_mod (val (b :: r))
    have hb := b2_le b
    have e : val (b :: r) / 2 = val r := by simp only [val]; omega
    have e2 : val (b :: r) = b2 b + 2 * val r := rfl
    rw [e, ih] at h1 h2
    have : num (b :: r) = 2 * num r + (b2 b + num r) % 2 := rfl
    omega
theorem num_lt (bs : List Bool) : num bs < 2 ^ bs.length := by rw [← inv_val]; exact inv_lt (val_lt bs)
theorem st_length (r n : Nat) : (st r n).length = r := by
  induction r generalizing n with
  | zero => rfl
  | succ r ih => simp [st, ih]
theorem num_st {r n : Nat} (h : n < 2 ^ r) : num (st r n) = n := by
  induction r generalizing n with
  | zero => simp at h; subst h; rfl
  | succ r ih =>
    have := ih (n := n / 2) (by rw [Nat.pow_succ] at h; omega)
    simp only [st, num, this, b2]
    by_cases e : (n + n / 2) % 2 = 1 <;> simp [e] <;> omega
theorem st_num (bs : List Bool) : st bs.length (num bs) = bs := by
  induction bs with
  | nil => rfl
  | cons b r ih =>
    have hb := b2_le b
    have e : num (b :: r) / 2 = num r := by simp only [num]; omega
    have e2 : num (b :: r) = 2 * num r + (b2 b + num r) % 2 := rfl
    simp only [List.length_cons, st, e, ih]
    congr 1
    cases b <;> simp [b2] at e2 ⊢ <;> omega
/-- how often a positive number can be halved -/
def ctz (n : Nat) : Nat := if n = 0 then 0 else if n % 2 = 0 then ctz (n / 2) + 1 else 0
termination_by n
decreasing_by omega
theorem ctz_odd {n : Nat} (h : n % 2 = 1) : ctz n = 0 := by rw [ctz]; simp [h]
theorem ctz_even {n : Nat} (h0 : 0 < n) (h : n % 2 = 0) : ctz n = ctz (n / 2) + 1 := by rw [ctz, if_neg (by omega), if_pos h]
theorem ctz_lt {n r : Nat} (h0 : 0 < n) (h : n < 2 ^ r) : ctz n < r := by
  induction r generalizing n with
  | zero => simp at h; omega
  | succ r ih =>
    by_cases e : n % 2 = 0
    · have := ih (n := n / 2) (by omega) (by rw [Nat.pow_succ] at h; omega)
      rw [ctz_even h0 e]; omega
    · rw [ctz_odd (by omega)]; omega
def flip : List Bool → Nat → List Bool
  | [], _ => []
  | b :: r, 0 => (!b) :: r
  | b :: r, k + 1 => b :: flip r k
theorem flip_up {r n : Nat} (h : n + 1 < 2 ^ r) : flip (st r n) (ctz (n + 1)) = st r (n + 1) := by
  induction r generalizing n with
  | zero => simp at h
  | succ r ih =>
    by_cases e : n % 2 = 0
    · rw [ctz_odd (by omega)]
      have e2 : (n + 1) / 2 = n / 2 := by omega
      simp only [st, flip, e2]
      congr 1
      by_cases q : (n + n / 2) % 2 = 1
      · have : ¬ (n + 1 + n / 2) % 2 = 1 := by omega
        simp [q, this]
      · have : (n + 1 + n / 2) % 2 = 1 := by omega
        simp [q, this]
    · have e2 : (n + 1) / 2 = n / 2 + 1 := by omega
      rw [ctz_even (by omega) (by omega), e2]
      simp only [st, flip, e2]
      rw [ih (by rw [Nat.pow_succ] at h; omega)]
      congr 1
      have : (n + 1 + (n / 2 + 1)) % 2 = (n + n / 2) % 2 := by omega
      rw [this]
theorem div_pow_succ' (n k : Nat) : n / 2 ^ (k + 1) = n / 2 ^ k / 2 := by rw [Nat.div_div_eq_div_mul, Nat.pow_succ]
end M
namespace M
def C : Nat → Nat → Nat
  | _, 0 => 1
  | 0, _ + 1 => 0
  | n + 1, c + 1 => C n c + C n (c + 1)
theorem C_gt : ∀ {n c : Nat}, n < c → C n c = 0
  | 0, c + 1, _ => rfl
  | n + 1, c + 1, h => by rw [C, C_gt (n := n) (c := c) (by omega), C_gt (n := n) (c := c + 1) (by omega)]
theorem C_pos : ∀ {n c : Nat}, c ≤ n → 0 < C n c
  | _, 0, _ => by rw [C]; decide
  | n + 1, c + 1, h => by have := C_pos (n := n) (c := c) (by omega); rw [C]; omega
theorem C_self : ∀ n : Nat, C n n = 1
  | 0 => rfl
  | n + 1 => by rw [C, C_self n, C_gt (by omega)]
/-- a choice, the greatest number first -/
def chr : Nat → Nat → Nat → List Nat
  | _, 0, _ => []
  | 0, _ + 1, _ => []
  | n + 1, c + 1, k => if k < C n (c + 1) then chr n (c + 1) k else n :: chr n c (C n c - 1 - (k - C n (c + 1)))
/-- the rank of a choice, the greatest number first -/
def rk : List Nat → Nat
  | [] => 0
  | n :: r => C n (r.length + 1) + C n r.length - 1 - rk r
theorem chr_length : ∀ {n c k : Nat}, k < C n c → (chr n c k).length = c
  | _, 0, _, _ => by simp [chr]
  | 0, c + 1, k, h => by simp [C] at h
  | n + 1, c + 1, k, h => by
    rw [C] at h
    rw [chr]
    split
    · exact chr_length ‹_›
    · rw [List.length_cons, chr_length (by omega)]
theorem chr_lt : ∀ {n c k : Nat}, ∀ x ∈ chr n c k, x < n
  | _, 0, _, x, hx => by simp [chr] at hx
  | 0, c + 1, k, x, hx => by simp [chr] at hx
  | n + 1, c + 1, k, x, hx => by
    rw [chr] at hx
    split at hx
    · have := chr_lt x hx; omega
    · rcases List.mem_cons.1 hx with rfl | hx
      · omega
      · have := chr_lt x hx; omega
theorem chr_desc : ∀ {n c k : Nat}, (chr n c k).Pairwise (· > ·)
  | _, 0, _ => by simp [chr]
  | 0, c + 1, k => by simp [chr]
  | n + 1, c + 1, k => by
    rw [chr]
    split
    · exact chr_desc
    · exact List.pairwise_cons.2 ⟨fun x hx => chr_lt x hx, chr_desc⟩
theorem rk_chr : ∀ {n c k : Nat}, k < C n c → rk (chr n c k) = k
  | _, 0, k, h => by rw [C] at h; simp [chr, rk]; omega
  | 0, c + 1, k, h => by simp [C] at h
  | n + 1, c + 1, k, h => by
    rw [C] at h
    rw [chr]
    split
    · exact rk_chr ‹_›
    · rw [rk, chr_length (by omega), rk_chr (by omega)]; omega
theorem rk_lt : ∀ {l : List Nat} {n : Nat}, l.Pairwise (· > ·) → (∀ x ∈ l, x < n) → l.length ≤ n ∧ rk l < C n l.length
  | [], n, _, _ => by simp [rk, C]
  | m :: r, 0, _, h => by have := h m (by simp); omega
  | m :: r, n + 1, hp, h => by
    have hm := h m (by simp)
    by_cases e : m = n
    · subst e
      obtain ⟨h1, h2⟩ := List.pairwise_cons.1 hp
      obtain ⟨h3, h4⟩ := rk_lt (l := r) (n := m) h2 (fun x hx => h1 x hx)
      rw [rk, List.length_cons, C]
      omega
    · have : ∀ x ∈ m :: r, x < n := by
        intro x hx
        rcases List.mem_cons.1 hx with rfl | hx
        · omega
        · have := (List.pairwise_cons.1 hp).1 x hx; omega
      obtain ⟨h3, h4⟩ := rk_lt (l := m :: r) (n := n) hp this
      refine ⟨by omega, ?_⟩
      rw [List.length_cons] at h4 ⊢
      rw [C]; omega
theorem chr_rk : ∀ {l : List Nat} {n : Nat}, l.Pairwise (· > ·) → (∀ x ∈ l, x < n) → chr n l.length (rk l) = l
  | [], n, _, _ => by cases n <;> simp [chr]
  | m :: r, 0, _, h => by have := h m (by simp); omega
  | m :: r, n + 1, hp, h => by
    have hm := h m (by simp)
    rw [List.length_cons, chr]
    by_cases e : m = n
    · subst e
      obtain ⟨h1, h2⟩ := List.pairwise_cons.1 hp
      obtain ⟨h3, h4⟩ := rk_lt (l := r) (n := m) h2 (fun x hx => h1 x hx)
      have hr := chr_rk (l := r) (n := m) h2 (fun x hx => h1 x hx)
      have he : rk (m :: r) = C m (r.length + 1) + C m r.length - 1 - rk r := rfl
      rw [if_neg (by omega)]
      congr 1
      rw [show C m r.length - 1 - (rk (m :: r) - C m (r.length + 1)) = rk r by omega]
      exact hr
    · have hx : ∀ x ∈ m :: r, x < n := by
        intro x hx
        rcases List.mem_cons.1 hx with rfl | hx
        · omega
        · have := (List.pairwise_cons.1 hp).1 x hx; omega
      obtain ⟨h3, h4⟩ := rk_lt (l := m :: r) (n := n) hp hx
      have hr := chr_rk (l := m :: r) (n := n) hp hx
      rw [List.length_cons] at h4 hr
      rw [if_pos h4]
      exact hr
/-- the numbers c - 1, .., 0 -/
def dn : Nat → List Nat
  | 0 => []
  | c + 1 => c :: dn c
theorem chr_first : ∀ {n c : Nat}, c ≤ n → chr n c 0 = dn c
  | _, 0, _ => by simp [chr, dn]
  | n + 1, c + 1, h => by
    rw [chr]
    by_cases e : c = n
    · subst e
      rw [C_gt (by omega), if_neg (by omega), C_self, dn]
      congr 1
      exact chr_first (Nat.le_refl _)
    · rw [if_pos (C_pos (by omega))]
      exact chr_first (by omega)
theorem chr_last : ∀ {n c : Nat}, c + 1 ≤ n → chr n (c + 1) (C n (c + 1) - 1) = (n - 1) :: dn c
  | n + 1, c, h => by
    have := C_pos (n := n) (c := c) (by omega)
    rw [chr, C, if_neg (by omega)]
    rw [show C n c - 1 - (C n c + C n (c + 1) - 1 - C n (c + 1)) = 0 by omega, chr_first (by omega)]
    rfl
/-- how many numbers of a are in b -/
def com (a b : List Nat) : Nat := (a.filter fun x => b.contains x).length
theorem com_cons (n : Nat) (a b : List Nat) (ha : ∀ x ∈ a, x < n) : com (n :: a) (n :: b) = com a b + 1 := by
  unfold com
  rw [List.filter_cons]
  simp only [List.contains_cons, beq_self_eq_true, Bool.true_or, if_true, List.length_cons]
  congr 2
  apply List.filter_congr
  intro x hx
  have := ha x hx
  have : (x == n) = false := by simp; omega
  simp [this]
theorem com_comm {a b : List Nat} (ha : a.Nodup) (hb : b.Nodup) : com a b = com b a := by
  unfold com
  induction a generalizing b with
  | nil => have : b.filter (fun x => ([] : List Nat).contains x) = [] := by simp [List.filter_eq_nil_iff]
           rw [this]; rfl
  | cons x r ih =>
    obtain ⟨h1, h2⟩ := List.nodup_cons.1 ha
    by_cases hx : b.contains x = true
    · have hm : x ∈ b := by simpa using hx
      rw [List.filter_cons, if_pos hx, List.length_cons, ih h2 hb]
      have : (b.filter fun y => (x :: r).contains y).length = (b.filter fun y => r.contains y).length + 1 := by
        have e := List.perm_cons_erase hm
        rw [(e.filter _).length_eq, (e.filter (fun y => r.contains y)).length_eq]
        have hne : x ∉ b.erase x := by
          intro hh
          have := (List.nodup_cons.1 (e.nodup hb)).1
          exact this hh
        rw [List.filter_cons, if_pos (by simp), List.filter_cons, if_neg (by simpa using h1), List.length_cons]
        congr 2
        apply List.filter_congr
        intro y hy
        have : (y == x) = false := by
          simp; rintro rfl; exact hne hy
        rw [List.contains_cons, this, Bool.false_or]
      omega
    · rw [List.filter_cons, if_neg hx, ih h2 hb]
      congr 1
      apply List.filter_congr
      intro y hy
      have : (y == x) = false := by
        simp; rintro rfl; exact hx (by simpa using hy)
      rw [List.contains_cons, this, Bool.false_or]
theorem dn_lt : ∀ {c : Nat}, ∀ x ∈ dn c, x < c
  | c + 1, x, h => by
    rcases List.mem_cons.1 h with rfl | h
    · omega
    · have := dn_lt x h; omega
theorem dn_length : ∀ c : Nat, (dn c).length = c
  | 0 => rfl
  | c + 1 => by simp [dn, dn_length c]
theorem com_self : ∀ (a : List Nat), com a a = a.length := by
  intro a
  unfold com
  rw [List.filter_eq_self.2]
  intro x hx
  simpa using hx
theorem com_out (m n : Nat) (a b : List Nat) (hm : m ∉ b) (hn : ∀ x ∈ a, x ≠ n) (hmn : m ≠ n) : com (m :: a) (n :: b) = com a b := by
  unfold com
  have h0 : ((n :: b).contains m) = false := by simp [hmn, hm]
  rw [List.filter_cons, h0]
  simp only [Bool.false_eq_true, if_false]
  congr 1
  apply List.filter_congr
  intro x hx
  have : (x == n) = false := by simpa using hn x hx
  rw [List.contains_cons, this, Bool.false_or]
theorem chr_step : ∀ {n c k : Nat}, k + 1 < C n (c + 1) → com (chr n (c + 1) k) (chr n (c + 1) (k + 1)) = c
  | 0, c, k, h => by simp [C] at h
  | n + 1, c, k, h => by
    rw [C] at h
    rw [chr, chr]
    by_cases h1 : k + 1 < C n (c + 1)
    · rw [if_pos (by omega), if_pos h1]
      exact chr_step h1
    · rw [if_neg h1]
      by_cases h2 : k < C n (c + 1)
      · rw [if_pos h2]
        have e : k = C n (c + 1) - 1 := by omega
        have hc : c + 1 ≤ n := by
          by_cases z : n < c + 1
          · rw [C_gt z] at h2; omega
          · omega
        rw [e, chr_last hc, show C n c - 1 - (C n (c + 1) - 1 + 1 - C n (c + 1)) = C n c - 1 by omega]
        rcases c with _ | c
        · simp [chr, com, dn]; omega
        · rw [chr_last (by omega)]
          have e2 : com ((n - 1) :: dn (c + 1)) (n :: (n - 1) :: dn c) = com ((n - 1) :: dn (c + 1)) ((n - 1) :: dn c) := by
            unfold com
            congr 1
            apply List.filter_congr
            intro x hx
            have : (x == n) = false := by
              rcases List.mem_cons.1 hx with rfl | hx
              · simp; omega
              · have := dn_lt x hx; simp; omega
            rw [List.contains_cons, this, Bool.false_or]
          rw [e2, com_cons _ _ _ (fun x hx => by have := dn_lt x hx; omega)]
          have : com (dn (c + 1)) (dn c) = c := by
            unfold com
            rw [dn, List.filter_cons, if_neg (by simp; intro hh; have := dn_lt c hh; omega)]
            have := com_self (dn c)
            unfold com at this
            rw [this, dn_length]
          rw [this]
      · rw [if_neg h2]
        rw [com_cons _ _ _ (fun x hx => chr_lt x hx)]
        obtain ⟨j, hj⟩ : ∃ j, C n c - 1 - (k - C n (c + 1)) = j + 1 := ⟨C n c - 1 - (k - C n (c + 1)) - 1, by omega⟩
        have hj2 : C n c - 1 - (k + 1 - C n (c + 1)) = j := by omega
        rw [hj, hj2]
        rcases c with _ | c
        · simp [C] at h hj
        · have := chr_step (n := n) (c := c) (k := j) (by omega)
          rw [com_comm (chr_desc.imp (fun h => Nat.ne_of_gt h)) (chr_desc.imp (fun h => Nat.ne_of_gt h)), this]
theorem chr_round {n c : Nat} (h : c + 1 ≤ n) (h1 : 1 < C n (c + 1)) : com (chr n (c + 1) (C n (c + 1) - 1)) (chr n (c + 1) 0) = c := by
  rw [chr_last h, chr_first h]
  have hne : n ≠ c + 1 := by rintro rfl; rw [C_self] at h1; omega
  rw [dn]
  rw [com_out _ _ _ _ (fun hh => by have := dn_lt _ hh; omega) (fun x hx => by have := dn_lt _ hx; omega) (by omega), com_self, dn_length]
end M
namespace M
def idxs : Nat → List Bool → List Nat
  | _, [] => []
  | o, b :: r => if b then o :: idxs (o + 1) r else idxs (o + 1) r
def p2sum : List Nat → Nat
  | [] => 0
  | k :: r => 2 ^ k + p2sum r
theorem idxs_ge : ∀ {o : Nat} {bs : List Bool}, ∀ x ∈ idxs o bs, o ≤ x ∧ x < o + bs.length
  | _, [], x, h => by simp [idxs] at h
  | o, b :: r, x, h => by
    rw [idxs] at h
    rw [List.length_cons]
    split at h
    · rcases List.mem_cons.1 h with rfl | h
      · omega
      · have := idxs_ge x h; omega
    · have := idxs_ge x h; omega
theorem idxs_asc : ∀ {o : Nat} {bs : List Bool}, (idxs o bs).Pairwise (· < ·)
  | _, [] => by simp [idxs]
  | o, b :: r => by
    rw [idxs]
    split
    · exact List.pairwise_cons.2 ⟨fun x hx => by have := idxs_ge x hx; omega, idxs_asc⟩
    · exact idxs_asc
theorem p2sum_idxs : ∀ (o : Nat) (bs : List Bool), p2sum (idxs o bs) = 2 ^ o * val bs
  | _, [] => by simp [idxs, p2sum, val]
  | o, b :: r => by
    have ih := p2sum_idxs (o + 1) r
    rw [Nat.pow_succ] at ih
    cases b
    · rw [idxs, if_neg (by decide), ih, val, b2]
      simp only [Bool.false_eq_true, if_false, Nat.zero_add]
      rw [Nat.mul_assoc]
    · rw [idxs, if_pos rfl, p2sum, ih, val, b2]
      simp only [if_true]
      rw [Nat.mul_add, Nat.mul_one, Nat.mul_assoc]
/-- a set as a list of signs -/
theorem idxs_of : ∀ {s : Nat} {o : Nat} {l : List Nat}, l.Pairwise (· < ·) → (∀ x ∈ l, o ≤ x ∧ x < o + s) → ∃ bs : List Bool, bs.length = s ∧ idxs o bs = l
  | 0, o, [], _, _ => ⟨[], rfl, rfl⟩
  | 0, o, x :: r, _, h => by have := h x (by simp); omega
  | s + 1, o, [], _, _ => by
    obtain ⟨bs, h1, h2⟩ := idxs_of (s := s) (o := o + 1) (l := []) .nil (by simp)
    exact ⟨false :: bs, by simp [h1], by simp [idxs, h2]⟩
  | s + 1, o, x :: r, hp, h => by
    obtain ⟨h1, h2⟩ := List.pairwise_cons.1 hp
    have hx := h x (by simp)
    by_cases e : x = o
    · subst e
      obtain ⟨bs, h3, h4⟩ := idxs_of (s := s) (o := x + 1) (l := r) h2 (fun y hy => by
        have := h1 y hy
        have := h y (by simp [hy])
        omega)
      exact ⟨true :: bs, by simp [h3], by simp [idxs, h4]⟩
    · obtain ⟨bs, h3, h4⟩ := idxs_of (s := s) (o := o + 1) (l := x :: r) hp (fun y hy => by
        have := h y hy
        rcases List.mem_cons.1 hy with rfl | hy
        · omega
        · have := h1 y hy; omega)
      exact ⟨false :: bs, by simp [h3], by simp [idxs, h4]⟩
/-- how many numbers of a are in b -/
theorem com_cons' (n : Nat) (a b : List Nat) (ha : n ∉ a) : com (n :: a) (n :: b) = com a b + 1 := by
  unfold com
  rw [List.filter_cons]
  simp only [List.contains_cons, beq_self_eq_true, Bool.true_or, if_true, List.length_cons]
  congr 2
  apply List.filter_congr
  intro x hx
  have : (x == n) = false := by simp; rintro rfl; exact ha hx
  simp [this]
theorem com_consr (n : Nat) (a b : List Nat) (ha : n ∉ a) : com a (n :: b) = com a b := by
  unfold com
  congr 1
  apply List.filter_congr
  intro x hx
  have : (x == n) = false := by simp; rintro rfl; exact ha hx
  rw [List.contains_cons, this, Bool.false_or]
theorem com_consl (n : Nat) (a b : List Nat) (hb : n ∉ b) : com (n :: a) b = com a b := by
  unfold com
  rw [List.filter_cons, if_neg (by simpa using hb)]
theorem set_step : ∀ {o k : Nat} {bs : List Bool}, k < bs.length → (idxs o bs).length + (idxs o (flip bs k)).length = 2 * com (idxs o bs) (idxs o (flip bs k)) + 1
  | _, _, [], h => by simp at h
  | o, 0, b :: r, _ => by
    have hn : o ∉ idxs (o + 1) r := fun h => by have := idxs_ge o h; omega
    have hs := com_self (idxs (o + 1) r)
    cases b
    · simp only [flip, idxs, Bool.not_false, Bool.false_eq_true, if_false, if_true, List.length_cons]
      rw [com_consr _ _ _ hn, hs]; omega
    · simp only [flip, idxs, Bool.not_true, Bool.false_eq_true, if_false, if_true, List.length_cons]
      rw [com_consl _ _ _ hn, hs]; omega
  | o, k + 1, b :: r, h => by
    have ih := set_step (o := o + 1) (k := k) (bs := r) (by simpa using h)
    have hn : o ∉ idxs (o + 1) r := fun h => by have := idxs_ge o h; omega
    cases b
    · simp only [flip, idxs, Bool.false_eq_true, if_false]; exact ih
    · simp only [flip, idxs, if_true, List.length_cons]
      rw [com_cons' _ _ _ hn]; omega
end M
namespace M
def prod : List Nat → Nat
  | [] => 1
  | a :: r => a * prod r
/-- told backwards where the digit ahead is odd -/
def turn (R d r : Nat) : Nat := if d % 2 = 1 then R - 1 - r else r
def mix : List Nat → Nat → List Nat
  | [], _ => []
  | _ :: r, k => k / prod r :: mix r (turn (prod r) (k / prod r) (k % prod r))
def mrk : List Nat → List Nat → Nat
  | _ :: r, d :: ds => d * prod r + turn (prod r) d (mrk r ds)
  | _, _ => 0
theorem prod_pos : ∀ {l : List Nat}, (∀ x ∈ l, 0 < x) → 0 < prod l
  | [], _ => by decide
  | a :: r, h => Nat.mul_pos (h a (by simp)) (prod_pos (fun x hx => h x (by simp [hx])))
theorem turn_lt {R d r : Nat} (h : r < R) : turn R d r < R := by unfold turn; split <;> omega
theorem turn_turn {R d r : Nat} (h : r < R) : turn R d (turn R d r) = r := by unfold turn; split <;> omega
theorem mix_length : ∀ (l : List Nat) (k : Nat), (mix l k).length = l.length
  | [], _ => rfl
  | _ :: r, k => by simp [mix, mix_length r]
theorem mrk_mix : ∀ {l : List Nat} {k : Nat}, (∀ x ∈ l, 0 < x) → k < prod l → mrk l (mix l k) = k
  | [], k, _, h => by simp [prod] at h; simp [mix, mrk, h]
  | a :: r, k, hp, h => by
    have hpr := prod_pos (l := r) (fun x hx => hp x (by simp [hx]))
    have hm := Nat.mod_lt k hpr
    rw [mix, mrk, mrk_mix (fun x hx => hp x (by simp [hx])) (turn_lt hm), turn_turn hm]
    have := Nat.div_add_mod k (prod r)
    rw [Nat.mul_comm] at this
    exact this
/-- digits, each less than its limit -/
inductive Dig : List Nat → List Nat → Prop
  | nil : Dig [] []
  | cons {a d : Nat} {l ds : List Nat} (h : d < a) (t : Dig l ds) : Dig (a :: l) (d :: ds)
theorem mix_dig : ∀ {l : List Nat} {k : Nat}, (∀ x ∈ l, 0 < x) → k < prod l → Dig l (mix l k)
  | [], k, _, h => .nil
  | a :: r, k, hp, h => by
    have hpr := prod_pos (l := r) (fun x hx => hp x (by simp [hx]))
    have hm := Nat.mod_lt k hpr
    rw [mix]
    exact .cons (Nat.div_lt_of_lt_mul (by rw [Nat.mul_comm]; exact h)) (mix_dig (fun x hx => hp x (by simp [hx])) (turn_lt hm))
theorem mix_mrk : ∀ {l ds : List Nat}, Dig l ds → mix l (mrk l ds) = ds ∧ mrk l ds < prod l
  | _, _, .nil => ⟨rfl, by decide⟩
  | _, _, .cons (a := a) (d := d) (l := l) (ds := ds) h t => by
    obtain ⟨h1, h2⟩ := mix_mrk t
    have hl := turn_lt (d := d) h2
    have hd : (d * prod l + turn (prod l) d (mrk l ds)) / prod l = d := by
      rw [Nat.mul_comm, Nat.mul_add_div (by omega), Nat.div_eq_of_lt hl]; rfl
    have hm : (d * prod l + turn (prod l) d (mrk l ds)) % prod l = turn (prod l) d (mrk l ds) := by
      rw [Nat.mul_comm, Nat.mul_add_mod, Nat.mod_eq_of_lt hl]
    constructor
    · rw [mrk, mix, hd, hm, turn_turn h2, h1]
    · rw [mrk, prod]
      have : (d + 1) * prod l ≤ a * prod l := Nat.mul_le_mul_right _ h
      rw [Nat.add_mul] at this
      omega
/-- in how many places two lists differ -/
def dif : List Nat → List Nat → Nat
  | x :: a, y :: b => (if x = y then 0 else 1) + dif a b
  | _, _ => 0
theorem dif_self : ∀ a : List Nat, dif a a = 0
  | [] => rfl
  | x :: a => by rw [dif, if_pos rfl, dif_self a]
theorem dif_comm : ∀ a b : List Nat, dif a b = dif b a
  | [], [] => rfl
  | [], _ :: _ => rfl
  | _ :: _, [] => rfl
  | x :: a, y :: b => by
    rw [dif, dif, dif_comm a b]
    by_cases h : x = y
    · rw [if_pos h, if_pos h.symm]
    · rw [if_neg h, if_neg (Ne.symm h)]
theorem mix_step : ∀ {l : List Nat} {k : Nat}, (∀ x ∈ l, 0 < x) → k + 1 < prod l → dif (mix l k) (mix l (k + 1)) = 1
  | [], k, _, h => by simp [prod] at h
  | a :: r, k, hp, h => by
    have hpr := prod_pos (l := r) (fun x hx => hp x (by simp [hx]))
    have hm := Nat.mod_lt k hpr
    have h2 := Nat.div_add_mod k (prod r)
    rw [mix, mix, dif]
    by_cases e : k % prod r + 1 < prod r
    · have hk : k + 1 = prod r * (k / prod r) + (k % prod r + 1) := by omega
      have hd : (k + 1) / prod r = k / prod r := by
        rw [hk, Nat.mul_add_div hpr, Nat.div_eq_of_lt e]; rfl
      have hm2 : (k + 1) % prod r = k % prod r + 1 := by
        rw [hk, Nat.mul_add_mod, Nat.mod_eq_of_lt e]
      rw [hd, hm2, if_pos rfl, Nat.zero_add]
      unfold turn
      split
      · have := mix_step (l := r) (k := prod r - 1 - (k % prod r + 1)) (fun x hx => hp x (by simp [hx])) (by omega)
        rw [show prod r - 1 - (k % prod r + 1) + 1 = prod r - 1 - k % prod r by omega] at this
        rw [dif_comm]; exact this
      · exact mix_step (fun x hx => hp x (by simp [hx])) e
    · have e' : k % prod r = prod r - 1 := by omega
      have hk : k + 1 = prod r * (k / prod r + 1) + 0 := by rw [Nat.mul_add]; omega
      have hd : (k + 1) / prod r = k / prod r + 1 := by rw [hk, Nat.mul_add_div hpr]; simp
      have hm2 : (k + 1) % prod r = 0 := by rw [hk, Nat.mul_add_mod]; simp
      rw [hd, hm2, e', if_neg (by omega)]
      have : turn (prod r) (k / prod r) (prod r - 1) = turn (prod r) (k / prod r + 1) 0 := by
        unfold turn
        by_cases q : k / prod r % 2 = 1
        · rw [if_pos q, if_neg (by omega)]; omega
        · rw [if_neg q, if_pos (by omega)]; omega
      rw [this, dif_self]
end M
namespace M
theorem modlt (k s : Nat) : k % (s + 1) < s + 1 := Nat.mod_lt _ (Nat.succ_pos _)
def ins (a x : Nat) (l : List Nat) : List Nat := l.take a ++ x :: l.drop a
theorem ins_length (a x : Nat) (l : List Nat) : (ins a x l).length = l.length + 1 := by
  unfold ins; simp; omega
theorem ins_zero (x : Nat) (l : List Nat) : ins 0 x l = x :: l := rfl
theorem ins_succ (a x y : Nat) (l : List Nat) : ins (a + 1) x (y :: l) = y :: ins a x l := rfl
theorem mem_ins {a x y : Nat} {l : List Nat} : y ∈ ins a x l ↔ y = x ∨ y ∈ l := by
  unfold ins
  have h := List.take_append_drop a l
  constructor
  · intro hh
    rcases List.mem_append.1 hh with hh | hh
    · exact .inr (List.mem_of_mem_take hh)
    · rcases List.mem_cons.1 hh with hh | hh
      · exact .inl hh
      · exact .inr (List.mem_of_mem_drop hh)
  · rintro (rfl | hh)
    · simp
    · rw [← h] at hh
      rcases List.mem_append.1 hh with hh | hh
      · exact List.mem_append.2 (.inl hh)
      · exact List.mem_append.2 (.inr (List.mem_cons.2 (.inr hh)))
/-- where the greatest is put in -/
def spl (s k : Nat) : Nat := if k / (s + 1) % 2 = 0 then s - k % (s + 1) else k % (s + 1)
theorem spl_le (s k : Nat) : spl s k ≤ s := by
  have := modlt k s
  unfold spl; split <;> omega
def sw : Nat → Nat → List Nat
  | 0, _ => []
  | s + 1, k => ins (spl s k) s (sw s (k / (s + 1)))
theorem sw_length : ∀ s k : Nat, (sw s k).length = s
  | 0, _ => rfl
  | s + 1, k => by rw [sw, ins_length, sw_length s]
theorem sw_lt : ∀ {s k : Nat}, ∀ x ∈ sw s k, x < s
  | 0, _, x, h => by simp [sw] at h
  | s + 1, k, x, h => by
    rw [sw] at h
    rcases mem_ins.1 h with rfl | h
    · omega
    · have := sw_lt x h; omega
theorem nodup_ins {a x : Nat} {l : List Nat} (h : l.Nodup) (hx : x ∉ l) : (ins a x l).Nodup := by
  induction l generalizing a with
  | nil => cases a <;> simp [ins]
  | cons y r ih =>
    obtain ⟨h1, h2⟩ := List.nodup_cons.1 h
    cases a with
    | zero => rw [ins_zero]; exact List.nodup_cons.2 ⟨hx, h⟩
    | succ a =>
      rw [ins_succ]
      refine List.nodup_cons.2 ⟨?_, ih h2 (fun hh => hx (List.mem_cons.2 (.inr hh)))⟩
      intro hh
      rcases mem_ins.1 hh with rfl | hh
      · exact hx (by simp)
      · exact h1 hh
theorem sw_nodup : ∀ {s k : Nat}, (sw s k).Nodup
  | 0, _ => by simp [sw]
  | s + 1, k => by
    rw [sw]; exact nodup_ins sw_nodup (fun h => by have := sw_lt _ h; omega)
def fact : Nat → Nat
  | 0 => 1
  | s + 1 => fact s * (s + 1)
theorem fact_pos : ∀ s, 0 < fact s
  | 0 => by decide
  | s + 1 => Nat.mul_pos (fact_pos s) (Nat.succ_pos s)
/-- the rank of a list, by what is less than k -/
def idx (x : Nat) : List Nat → Nat
  | [] => 0
  | y :: r => if y = x then 0 else idx x r + 1
def below (k : Nat) (l : List Nat) : List Nat := l.filter (· < k)
/-- one step of the rank: r is the rank without the number s, a its place -/
def rst (s r a : Nat) : Nat := r * (s + 1) + (if r % 2 = 0 then s - a else a)
def srk : Nat → List Nat → Nat
  | 0, _ => 0
  | s + 1, l => rst s (srk s l) (idx s (below (s + 1) l))
theorem below_below {j k : Nat} (h : j ≤ k) (l : List Nat) : below j (below k l) = below j l := by
  unfold below
  rw [List.filter_filter]
  apply List.filter_congr
  intro x _
  by_cases q : x < j
  · have : x < k := by omega
    simp [q, this]
  · simp [q]
theorem srk_below : ∀ {s k : Nat} (l : List Nat), s ≤ k → srk s (below k l) = srk s l
  | 0, _, _, _ => rfl
  | s + 1, k, l, h => by rw [srk, srk, srk_below l (by omega), below_below h]
theorem below_ins {a s : Nat} {l : List Nat} (h : ∀ x ∈ l, x < s) : below s (ins a s l) = l := by
  unfold below ins
  rw [List.filter_append, List.filter_cons, if_neg (by simp), ← List.filter_append, List.take_append_drop]
  rw [List.filter_eq_self]
  intro x hx
  simpa using h x hx
theorem below_all {k : Nat} {l : List Nat} (h : ∀ x ∈ l, x < k) : below k l = l := by
  unfold below; rw [List.filter_eq_self]; intro x hx; simpa using h x hx
theorem idx_ins {x : Nat} : ∀ {a : Nat} {l : List Nat}, x ∉ l → a ≤ l.length → idx x (ins a x l) = a
  | 0, l, _, _ => by rw [ins_zero, idx, if_pos rfl]
  | a + 1, [], _, h => by simp at h
  | a + 1, y :: r, hx, h => by
    rw [ins_succ, idx, if_neg (fun e => hx (by rw [e]; simp)), idx_ins (fun hh => hx (List.mem_cons.2 (.inr hh))) (by simpa using h)]
theorem srk_sw : ∀ {s k : Nat}, k < fact s → srk s (sw s k) = k
  | 0, k, h => by simp [fact] at h; simp [srk, h]
  | s + 1, k, h => by
    have hq : k / (s + 1) < fact s := Nat.div_lt_of_lt_mul (by rw [Nat.mul_comm]; exact h)
    have ih := srk_sw hq
    rw [srk, below_all (fun x hx => sw_lt x hx)]
    have e1 : srk s (sw (s + 1) k) = k / (s + 1) := by
      rw [← srk_below _ (Nat.le_refl s), sw, below_ins (fun x hx => sw_lt x hx), ih]
    rw [e1, sw, idx_ins (fun hh => by have := sw_lt _ hh; omega) (by rw [sw_length]; exact spl_le s k)]
    have h2 := Nat.div_add_mod k (s + 1)
    have h3 := modlt k s
    unfold rst spl
    rw [Nat.mul_comm] at h2
    split <;> omega
/-- a list that has each of 0, .., s - 1 once -/
structure Perm (s : Nat) (l : List Nat) : Prop where
  len : l.length = s
  lt : ∀ x ∈ l, x < s
  nodup : l.Nodup
theorem idx_lt {x : Nat} : ∀ {l : List Nat}, x ∈ l → idx x l < l.length
  | y :: r, h => by
    rw [idx]
    split
    · simp
    · rcases List.mem_cons.1 h with rfl | h
      · exact absurd rfl ‹_›
      · have := idx_lt h; simp; omega
theorem ins_idx {x : Nat} : ∀ {l : List Nat}, x ∈ l → l.Nodup → ins (idx x l) x (l.filter (· ≠ x)) = l
  | y :: r, h, hn => by
    obtain ⟨h1, h2⟩ := List.nodup_cons.1 hn
    rw [idx]
    by_cases e : y = x
    · subst e
      rw [if_pos rfl, ins_zero, List.filter_cons, if_neg (by simp)]
      congr 1
      rw [List.filter_eq_self]
      intro z hz
      have : z ≠ y := fun e => h1 (e ▸ hz)
      simp [this]
    · rw [if_neg e, List.filter_cons, if_pos (by simpa using e), ins_succ]
      rcases List.mem_cons.1 h with rfl | h
      · exact absurd rfl e
      · rw [ins_idx h h2]
theorem nodup_lt_length : ∀ {s : Nat} {l : List Nat}, l.Nodup → (∀ x ∈ l, x < s) → l.length ≤ s
  | 0, [], _, _ => by simp
  | 0, x :: r, _, h => by have := h x (by simp); omega
  | s + 1, l, hn, h => by
    by_cases hs : s ∈ l
    · have := nodup_lt_length (s := s) (l := l.filter (· ≠ s)) (hn.filter _) (by
        intro x hx
        have hx2 := List.mem_filter.1 hx
        have := h x hx2.1
        have : x ≠ s := by simpa using hx2.2
        omega)
      have e := congrArg List.length (ins_idx hs hn)
      rw [ins_length] at e
      omega
    · have := nodup_lt_length (s := s) hn (by
        intro x hx
        have := h x hx
        have : x ≠ s := fun e => hs (e ▸ hx)
        omega)
      omega
theorem Perm.mem {s : Nat} {l : List Nat} (h : Perm (s + 1) l) : s ∈ l := by
  by_cases hs : s ∈ l
  · exact hs
  · have := nodup_lt_length (s := s) h.nodup (by
      intro x hx
      have := h.lt x hx
      have : x ≠ s := fun e => hs (e ▸ hx)
      omega)
    have := h.len
    omega
theorem Perm.filter_ne {s : Nat} {l : List Nat} (h : Perm (s + 1) l) : l.filter (· ≠ s) = below s l := by
  unfold below
  apply List.filter_congr
  intro x hx
  have := h.lt x hx
  by_cases e : x = s
  · simp [e]
  · have : x < s := by omega
    simp [e, this]
theorem Perm.below {s : Nat} {l : List Nat} (h : Perm (s + 1) l) : Perm s (below s l) := by
  have e := congrArg List.length (ins_idx h.mem h.nodup)
  rw [ins_length, h.filter_ne] at e
  have := h.len
  refine ⟨by omega, ?_, h.nodup.filter _⟩
  intro x hx
  simpa using (List.mem_filter.1 hx).2
theorem sw_srk : ∀ {s : Nat} {l : List Nat}, Perm s l → sw s (srk s l) = l ∧ srk s l < fact s
  | 0, l, h => by
    have := List.length_eq_zero_iff.1 h.len
    subst this
    exact ⟨rfl, by decide⟩
  | s + 1, l, h => by
    obtain ⟨h1, h2⟩ := sw_srk h.below
    rw [srk_below _ (Nat.le_refl s)] at h1 h2
    have hi := idx_lt h.mem
    rw [h.len] at hi
    have e := ins_idx h.mem h.nodup
    rw [h.filter_ne] at e
    rw [srk, below_all h.lt]
    generalize hr : srk s l = r at *
    generalize ha : idx s l = a at *
    have hd : rst s r a / (s + 1) = r := by
      unfold rst
      rw [Nat.mul_comm, Nat.mul_add_div (Nat.succ_pos s), Nat.div_eq_of_lt (by split <;> omega)]
      rfl
    have hm : rst s r a % (s + 1) = if r % 2 = 0 then s - a else a := by
      unfold rst
      rw [Nat.mul_comm, Nat.mul_add_mod, Nat.mod_eq_of_lt (by split <;> omega)]
    constructor
    · rw [sw, hd, h1]
      have : spl s (rst s r a) = a := by
        unfold spl
        rw [hd, hm]
        split <;> omega
      rw [this]; exact e
    · have : rst s r a < (r + 1) * (s + 1) := by
        unfold rst
        rw [Nat.add_mul]
        split <;> omega
      rw [fact]
      exact Nat.lt_of_lt_of_le this (Nat.mul_le_mul_right _ (by omega))
theorem sw_perm (s k : Nat) : Perm s (sw s k) := ⟨sw_length s k, sw_lt, sw_nodup⟩
/-- two lists: those at p and behind it exchanged -/
inductive Ex : Nat → List Nat → List Nat → Prop
  | here (x y : Nat) (r : List Nat) (h : x ≠ y) : Ex 0 (x :: y :: r) (y :: x :: r)
  | there (x : Nat) {p : Nat} {a b : List Nat} (h : Ex p a b) : Ex (p + 1) (x :: a) (x :: b)
theorem ex_ins_end : ∀ {p : Nat} {a b : List Nat} (x : Nat), Ex p a b → Ex p (a ++ [x]) (b ++ [x])
  | _, _, _, x, .here u v r h => .here u v (r ++ [x]) h
  | _, _, _, x, .there u h => .there u (ex_ins_end x h)
theorem ex_up : ∀ {a x : Nat} {l : List Nat}, a < l.length → x ∉ l → Ex a (ins a x l) (ins (a + 1) x l)
  | _, _, [], h, _ => by simp at h
  | 0, x, y :: r, _, hx => by
    rw [ins_zero, ins_succ, ins_zero]
    exact .here x y r (fun e => hx (by rw [e]; simp))
  | a + 1, x, y :: r, h, hx => by
    rw [ins_succ, ins_succ]
    exact .there y (ex_up (by simpa using h) (fun hh => hx (List.mem_cons.2 (.inr hh))))
theorem Ex.symm : ∀ {p : Nat} {a b : List Nat}, Ex p a b → Ex p b a
  | _, _, _, .here u v r h => .here v u r (Ne.symm h)
  | _, _, _, .there u h => .there u h.symm
theorem ins_end (x : Nat) (l : List Nat) : ins l.length x l = l ++ [x] := by unfold ins; simp
theorem sw_step : ∀ {s k : Nat}, k + 1 < fact s → ∃ p, Ex p (sw s k) (sw s (k + 1))
  | 0, k, h => by simp [fact] at h
  | s + 1, k, h => by
    have hs : s ∉ sw s (k / (s + 1)) := fun hh => by have := sw_lt _ hh; omega
    have h3 := modlt k s
    have h2 := Nat.div_add_mod k (s + 1)
    rw [sw, sw]
    by_cases e : k % (s + 1) + 1 < s + 1
    · have hd : (k + 1) / (s + 1) = k / (s + 1) := by
        have : k + 1 = (s + 1) * (k / (s + 1)) + (k % (s + 1) + 1) := by omega
        rw [this, Nat.mul_add_div (Nat.succ_pos s), Nat.div_eq_of_lt e]; rfl
      have hm : (k + 1) % (s + 1) = k % (s + 1) + 1 := by
        have : k + 1 = (s + 1) * (k / (s + 1)) + (k % (s + 1) + 1) := by omega
        rw [this, Nat.mul_add_mod, Nat.mod_eq_of_lt e]
      rw [hd]
      by_cases q : k / (s + 1) % 2 = 0
      · have e1 : spl s k = s - k % (s + 1) - 1 + 1 := by unfold spl; rw [if_pos q]; omega
        have e2 : spl s (k + 1) = s - k % (s + 1) - 1 := by unfold spl; rw [hd, hm, if_pos q]; omega
        rw [e1, e2]
        exact ⟨_, (ex_up (by rw [sw_length]; omega) hs).symm⟩
      · have e1 : spl s k = k % (s + 1) := by unfold spl; rw [if_neg q]
        have e2 : spl s (k + 1) = k % (s + 1) + 1 := by unfold spl; rw [hd, hm, if_neg q]
        rw [e1, e2]
        exact ⟨_, ex_up (by rw [sw_length]; omega) hs⟩
    · have e' : k % (s + 1) = s := by omega
      have hk : k + 1 = (s + 1) * (k / (s + 1) + 1) + 0 := by rw [Nat.mul_add]; omega
      have hd : (k + 1) / (s + 1) = k / (s + 1) + 1 := by rw [hk, Nat.mul_add_div (Nat.succ_pos s)]; simp
      have hm : (k + 1) % (s + 1) = 0 := by rw [hk, Nat.mul_add_mod]; simp
      have hlt : k / (s + 1) + 1 < fact s := by
        rw [← hd]; exact Nat.div_lt_of_lt_mul (by rw [Nat.mul_comm]; exact h)
      obtain ⟨p, hp⟩ := sw_step hlt
      rw [hd]
      by_cases q : k / (s + 1) % 2 = 0
      · have e1 : spl s k = 0 := by unfold spl; rw [if_pos q, e']; omega
        have e2 : spl s (k + 1) = 0 := by unfold spl; rw [hd, hm, if_neg (by omega)]
        rw [e1, e2, ins_zero, ins_zero]
        exact ⟨_, .there s hp⟩
      · have e1 : spl s k = s := by unfold spl; rw [if_neg q, e']
        have e2 : spl s (k + 1) = s := by unfold spl; rw [hd, hm, if_pos (by omega)]; omega
        have f1 := ins_end s (sw s (k / (s + 1)))
        have f2 := ins_end s (sw s (k / (s + 1) + 1))
        rw [sw_length] at f1 f2
        rw [e1, e2, f1, f2]
        exact ⟨_, ex_ins_end s hp⟩
end M
end Go.Proofs.Ytcgilnmljflebaa
