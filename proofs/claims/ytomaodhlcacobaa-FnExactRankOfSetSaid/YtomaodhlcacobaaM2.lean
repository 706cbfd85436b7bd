/- Plain mathematics of choices and sets, of no program. -/
import Derived.Test.YtomaodhlcacobaaM1
set_option linter.unusedVariables false
set_option linter.unusedSimpArgs false
namespace Go.Proofs.Ytomaodhlcacobaa
namespace M
/-! choices -/
def C : Nat → Nat → Nat
  | _, 0 => 1
  | 0, _ + 1 => 0
  | n + 1, c + 1 => C n c + C n (c + 1)
theorem C_gt : ∀ {n c : Nat}, n < c → C n c = 0
  | 0, c + 1, _ => rfl
  | n + 1, c + 1, h => by rw [C, C_gt (n := n) (c := c) (by omega), C_gt (n := n) (c := c + 1) (by omega)]
theorem C_pos : ∀ {n c : Nat}, c ≤ n → 0 < C n c
  | _, 0, _ => by rw [C]; decide
  | n + 1, c + 1, h => by have := C_pos (n := n) (c := c) (by omega); rw [C]; omega
theorem C_self : ∀ n : Nat, C n n = 1
  | 0 => rfl
  | n + 1 => by rw [C, C_self n, C_gt (by omega)]
/-- a choice, the greatest number first -/
def chr : Nat → Nat → Nat → List Nat
  | _, 0, _ => []
  | 0, _ + 1, _ => []
  | n + 1, c + 1, k => if k < C n (c + 1) then chr n (c + 1) k else n :: chr n c (C n c - 1 - (k - C n (c + 1)))
/-- the rank of a choice, the greatest number first -/
def rk : List Nat → Nat
  | [] => 0
  | n :: r => C n (r.length + 1) + C n r.length - 1 - rk r
theorem chr_length : ∀ {n c k : Nat}, k < C n c → (chr n c k).length = c
  | _, 0, _, _ => by simp [chr]
  | 0, c + 1, k, h => by simp [C] at h
  | n + 1, c + 1, k, h => by
    rw [C] at h
    rw [chr]
    split
    · exact chr_length ‹_›
    · rw [List.length_cons, chr_length (by omega)]
theorem chr_lt : ∀ {n c k : Nat}, ∀ x ∈ chr n c k, x < n
  | _, 0, _, x, hx => by simp [chr] at hx
  | 0, c + 1, k, x, hx => by simp [chr] at hx
  | n + 1, c + 1, k, x, hx => by
    rw [chr] at hx
    split at hx
    · have := chr_lt x hx; omega
    · rcases List.mem_cons.1 hx with rfl | hx
      · omega
      · have := chr_lt x hx; omega
theorem chr_desc : ∀ {n c k : Nat}, (chr n c k).Pairwise (· > ·)
  | _, 0, _ => by simp [chr]
  | 0, c + 1, k => by simp [chr]
  | n + 1, c + 1, k => by
    rw [chr]
    split
    · exact chr_desc
    · exact List.pairwise_cons.2 ⟨fun x hx => chr_lt x hx, chr_desc⟩
theorem rk_chr : ∀ {n c k : Nat}, k < C n c → rk (chr n c k) = k
  | _, 0, k, h => by rw [C] at h; simp [chr, rk]; omega
  | 0, c + 1, k, h => by simp [C] at h
  | n + 1, c + 1, k, h => by
    rw [C] at h
    rw [chr]
    split
    · exact rk_chr ‹_›
    · rw [rk, chr_length (by omega), rk_chr (by omega)]; omega
theorem rk_lt : ∀ {l : List Nat} {n : Nat}, l.Pairwise (· > ·) → (∀ x ∈ l, x < n) → l.length ≤ n ∧ rk l < C n l.length
  | [], n, _, _ => by simp [rk, C]
  | m :: r, 0, _, h => by have := h m (by simp); omega
  | m :: r, n + 1, hp, h => by
    have hm := h m (by simp)
    by_cases e : m = n
    · subst e
      obtain ⟨h1, h2⟩ := List.pairwise_cons.1 hp
      obtain ⟨h3, h4⟩ := rk_lt (l := r) (n := m) h2 (fun x hx => h1 x hx)
      rw [rk, List.length_cons, C]
      omega
    · have : ∀ x ∈ m :: r, x < n := by
        intro x hx
        rcases List.mem_cons.1 hx with rfl | hx
        · omega
        · have := (List.pairwise_cons.1 hp).1 x hx; omega
      obtain ⟨h3, h4⟩ := rk_lt (l := m :: r) (n := n) hp this
      refine ⟨by omega, ?_⟩
      rw [List.length_cons] at h4 ⊢
      rw [C]; omega
theorem chr_rk : ∀ {l : List Nat} {n : Nat}, l.Pairwise (· > ·) → (∀ x ∈ l, x < n) → chr n l.length (rk l) = l
  | [], n, _, _ => by cases n <;> simp [chr]
  | m :: r, 0, _, h => by have := h m (by simp); omega
  | m :: r, n + 1, hp, h => by
    have hm := h m (by simp)
    rw [List.length_cons, chr]
    by_cases e : m = n
    · subst e
      obtain ⟨h1, h2⟩ := List.pairwise_cons.1 hp
      obtain ⟨h3, h4⟩ := rk_lt (l := r) (n := m) h2 (fun x hx => h1 x hx)
      have hr := chr_rk (l := r) (n := m) h2 (fun x hx => h1 x hx)
      have he : rk (m :: r) = C m (r.length + 1) + C m r.length - 1 - rk r := rfl
      rw [if_neg (by omega)]
      congr 1
      rw [show C m r.length - 1 - (rk (m :: r) - C m (r.length + 1)) = rk r by omega]
      exact hr
    · have hx : ∀ x ∈ m :: r, x < n := by
        intro x hx
        rcases List.mem_cons.1 hx with rfl | hx
        · omega
        · have := (List.pairwise_cons.1 hp).1 x hx; omega
      obtain ⟨h3, h4⟩ := rk_lt (l := m :: r) (n := n) hp hx
      have hr := chr_rk (l := m :: r) (n := n) hp hx
      rw [List.length_cons] at h4 hr
      rw [if_pos h4]
      exact hr
/-- the numbers c - 1, .., 0 -/
def dn : Nat → List Nat
  | 0 => []
  | c + 1 => c :: dn c
theorem chr_first : ∀ {n c : Nat}, c ≤ n → chr n c 0 = dn c
  | _, 0, _ => by simp [chr, dn]
  | n + 1, c + 1, h => by
    rw [chr]
    by_cases e : c = n
    · subst e
      rw [C_gt (by omega), if_neg (by omega), C_self, dn]
      congr 1
      exact chr_first (Nat.le_refl _)
    · rw [if_pos (C_pos (by omega))]
      exact chr_first (by omega)
theorem chr_last : ∀ {n c : Nat}, c + 1 ≤ n → chr n (c + 1) (C n (c + 1) - 1) = (n - 1) :: dn c
  | n + 1, c, h => by
    have := C_pos (n := n) (c := c) (by omega)
    rw [chr, C, if_neg (by omega)]
    rw [show C n c - 1 - (C n c + C n (c + 1) - 1 - C n (c + 1)) = 0 by omega, chr_first (by omega)]
    rfl
/-- how many numbers of a are in b -/
def com (a b : List Nat) : Nat := (a.filter fun x => b.contains x).length
theorem com_cons (n : Nat) (a b : List Nat) (ha : ∀ x ∈ a, x < n) : com (n :: a) (n :: b) = com a b + 1 := by
  unfold com
  rw [List.filter_cons]
  simp only [List.contains_cons, beq_self_eq_true, Bool.true_or, if_true, List.length_cons]
  congr 2
  apply List.filter_congr
  intro x hx
  have := ha x hx
  have : (x == n) = false := by simp; omega
  simp [this]
theorem com_comm {a b : List Nat} (ha : a.Nodup) (hb : b.Nodup) : com a b = com b a := by
  unfold com
  induction a generalizing b with
  | nil => have : b.filter (fun x => ([] : List Nat).contains x) = [] := by simp [List.filter_eq_nil_iff]
           rw [this]; rfl
  | cons x r ih =>
    obtain ⟨h1, h2⟩ := List.nodup_cons.1 ha
    by_cases hx : b.contains x = true
    · have hm : x ∈ b := by simpa using hx
      rw [List.filter_cons, if_pos hx, List.length_cons, ih h2 hb]
      have : (b.filter fun y => (x :: r).contains y).length = (b.filter fun y => r.contains y).length + 1 := by
        have e := List.perm_cons_erase hm
        rw [(e.filter _).length_eq, (e.filter (fun y => r.contains y)).length_eq]
        have hne : x ∉ b.erase x := by
          intro hh
          have := (List.nodup_cons.1 (e.nodup hb)).1
          exact this hh
        rw [List.filter_cons, if_pos (by simp), List.filter_cons, if_neg (by simpa using h1), List.length_cons]
        congr 2
        apply List.filter_congr
        intro y hy
        have : (y == x) = false := by
          simp; rintro rfl; exact hne hy
        rw [List.contains_cons, this, Bool.false_or]
      omega
    · rw [List.filter_cons, if_neg hx, ih h2 hb]
      congr 1
      apply List.filter_congr
      intro y hy
      have : (y == x) = false := by
        simp; rintro rfl; exact hx (by simpa using hy)
      rw [List.contains_cons, this, Bool.false_or]
theorem dn_lt : ∀ {c : Nat}, ∀ x ∈ dn c, x < c
  | c + 1, x, h => by
    rcases List.mem_cons.1 h with rfl | h
    · omega
    · have := dn_lt x h; omega
theorem dn_length : ∀ c : Nat, (dn c).length = c
  | 0 => rfl
  | c + 1 => by simp [dn, dn_length c]
theorem com_self : ∀ (a : List Nat), com a a = a.length := by
  intro a
  unfold com
  rw [List.filter_eq_self.2]
  intro x hx
  simpa using hx
theorem com_out (m n : Nat) (a b : List Nat) (hm : m ∉ b) (hn : ∀ x ∈ a, x ≠ n) (hmn : m ≠ n) : com (m :: a) (n :: b) = com a b := by
  unfold com
  have h0 : ((n :: b).contains m) = false := by simp [hmn, hm]
  rw [List.filter_cons, h0]
  simp only [Bool.false_eq_true, if_false]
  congr 1
  apply List.filter_congr
  intro x hx
  have : (x == n) = false := by simpa using hn x hx
  rw [List.contains_cons, this, Bool.false_or]
theorem chr_step : ∀ {n c k : Nat}, k + 1 < C n (c + 1) → com (chr n (c + 1) k) (chr n (c + 1) (k + 1)) = c
  | 0, c, k, h => by simp [C] at h
  | n + 1, c, k, h => by
    rw [C] at h
    rw [chr, chr]
    by_cases h1 : k + 1 < C n (c + 1)
    · rw [if_pos (by omega), if_pos h1]
      exact chr_step h1
    · rw [if_neg h1]
      by_cases h2 : k < C n (c + 1)
      · rw [if_pos h2]
        have e : k = C n (c + 1) - 1 := by omega
        have hc : c + 1 ≤ n := by
          by_cases z : n < c + 1
          · rw [C_gt z] at h2; omega
          · omega
        rw [e, chr_last hc, show C n c - 1 - (C n (c + 1) - 1 + 1 - C n (c + 1)) = C n c - 1 by omega]
        rcases c with _ | c
        · simp [chr, com, dn]; omega
        · rw [chr_last (by omega)]
          have e2 : com ((n - 1) :: dn (c + 1)) (n :: (n - 1) :: dn c) = com ((n - 1) :: dn (c + 1)) ((n - 1) :: dn c) := by
            unfold com
            congr 1
            apply List.filter_congr
            intro x hx
            have : (x == n) = false := by
              rcases List.mem_cons.1 hx with rfl | hx
              · simp; omega
              · have := dn_lt x hx; simp; omega
            rw [List.contains_cons, this, Bool.false_or]
          rw [e2, com_cons _ _ _ (fun x hx => by have := dn_lt x hx; omega)]
          have : com (dn (c + 1)) (dn c) = c := by
            unfold com
            rw [dn, List.filter_cons, if_neg (by simp; intro hh; have := dn_lt c hh; omega)]
            have := com_self (dn c)
            unfold com at this
            rw [this, dn_length]
          rw [this]
      · rw [if_neg h2]
        rw [com_cons _ _ _ (fun x hx => chr_lt x hx)]
        obtain ⟨j, hj⟩ : ∃ j, C n c - 1 - (k - C n (c + 1)) = j + 1 := ⟨C n c - 1 - (k - C n (c + 1)) - 1, by omega⟩
        have hj2 : C n c - 1 - (k + 1 - C n (c + 1)) = j := by omega
        rw [hj, hj2]
        rcases c with _ | c
        · simp [C] at h hj
        · have := chr_step (n := n) (c := c) (k := j) (by omega)
          rw [com_comm (chr_desc.imp (fun h => Nat.ne_of_gt h)) (chr_desc.imp (fun h => Nat.ne_of_gt h)), this]
theorem chr_round {n c : Nat} (h : c + 1 ≤ n) (h1 : 1 < C n (c + 1)) : com (chr n (c + 1) (C n (c + 1) - 1)) (chr n (c + 1) 0) = c := by
  rw [chr_last h, chr_first h]
  have hne : n ≠ c + 1 := by rintro rfl; rw [C_self] at h1; omega
  rw [dn]
  rw [com_out _ _ _ _ (fun hh => by have := dn_lt _ hh; omega) (fun x hx => by have := dn_lt _ hx; omega) (by omega), com_self, dn_length]
end M

namespace M
/-! sets -/
def idxs : Nat → List Bool → List Nat
  | _, [] => []
  | o, b :: r => if b then o :: idxs (o + 1) r else idxs (o + 1) r
def p2sum : List Nat → Nat
  | [] => 0
  | k :: r => 2 ^ k + p2sum r
theorem idxs_ge : ∀ {o : Nat} {bs : List Bool}, ∀ x ∈ idxs o bs, o ≤ x ∧ x < o + bs.length
  | _, [], x, h => by simp [idxs] at h
  | o, b :: r, x, h => by
    rw [idxs] at h
    rw [List.length_cons]
    split at h
    · rcases List.mem_cons.1 h with rfl | h
      · omega
      · have := idxs_ge x h; omega
    · have := idxs_ge x h; omega
theorem idxs_asc : ∀ {o : Nat} {bs : List Bool}, (idxs o bs).Pairwise (· < ·)
  | _, [] => by simp [idxs]
  | o, b :: r => by
    rw [idxs]
    split
    · exact List.pairwise_cons.2 ⟨fun x hx => by have := idxs_ge x hx; omega, idxs_asc⟩
    · exact idxs_asc
theorem p2sum_idxs : ∀ (o : Nat) (bs : List Bool), p2sum (idxs o bs) = 2 ^ o * val bs
  | _, [] => by simp [idxs, p2sum, val]
  | o, b :: r => by
    have ih := p2sum_idxs (o + 1) r
    rw [Nat.pow_succ] at ih
    cases b
    · rw [idxs, if_neg (by decide), ih, val, b2]
      simp only [Bool.false_eq_true, if_false, Nat.zero_add]
      rw [Nat.mul_assoc]
    · rw [idxs, if_pos rfl, p2sum, ih, val, b2]
      simp only [if_true]
      rw [Nat.mul_add, Nat.mul_one, Nat.mul_assoc]
/-- a set as a list of signs -/
theorem idxs_of : ∀ {s : Nat} {o : Nat} {l : List Nat}, l.Pairwise (· < ·) → (∀ x ∈ l, o ≤ x ∧ x < o + s) → ∃ bs : List Bool, bs.length = s ∧ idxs o bs = l
  | 0, o, [], _, _ => ⟨[], rfl, rfl⟩
  | 0, o, x :: r, _, h => by have := h x (by simp); omega
  | s + 1, o, [], _, _ => by
    obtain ⟨bs, h1, h2⟩ := idxs_of (s := s) (o := o + 1) (l := []) .nil (by simp)
    exact ⟨false :: bs, by simp [h1], by simp [idxs, h2]⟩
  | s + 1, o, x :: r, hp, h => by
    obtain ⟨h1, h2⟩ := List.pairwise_cons.1 hp
    have hx := h x (by simp)
    by_cases e : x = o
    · subst e
      obtain ⟨bs, h3, h4⟩ := idxs_of (s := s) (o := x + 1) (l := r) h2 (fun y hy => by
        have := h1 y hy
        have := h y (by simp [hy])
        omega)
      exact ⟨true :: bs, by simp [h3], by simp [idxs, h4]⟩
    · obtain ⟨bs, h3, h4⟩ := idxs_of (s := s) (o := o + 1) (l := x :: r) hp (fun y hy => by
        have := h y hy
        rcases List.mem_cons.1 hy with rfl | hy
        · omega
        · have := h1 y hy; omega)
      exact ⟨false :: bs, by simp [h3], by simp [idxs, h4]⟩
theorem idxs_inj : ∀ {o : Nat} {a b : List Bool}, a.length = b.length → idxs o a = idxs o b → a = b
  | _, [], [], _, _ => rfl
  | o, x :: a, y :: b, hl, h => by
    have hl' : a.length = b.length := by simpa using hl
    rw [idxs, idxs] at h
    cases x <;> cases y <;> simp only [Bool.false_eq_true, if_false, if_true] at h
    · rw [idxs_inj hl' h]
    · have := idxs_ge (o := o + 1) (bs := a) o (by rw [h]; simp); omega
    · have := idxs_ge (o := o + 1) (bs := b) o (by rw [← h]; simp); omega
    · injection h with _ h; rw [idxs_inj hl' h]
/-- how many numbers of a are in b -/
theorem com_cons' (n : Nat) (a b : List Nat) (ha : n ∉ a) : com (n :: a) (n :: b) = com a b + 1 := by
  unfold com
  rw [List.filter_cons]
  simp only [List.contains_cons, beq_self_eq_true, Bool.true_or, if_true, List.length_cons]
  congr 2
  apply List.filter_congr
  intro x hx
  have : (x == n) = false := by simp; rintro rfl; exact ha hx
  simp [this]
theorem com_consr (n : Nat) (a b : List Nat) (ha : n ∉ a) : com a (n :: b) = com a b := by
  unfold com
  congr 1
  apply List.filter_congr
  intro x hx
  have : (x == n) = false := by simp; rintro rfl; exact ha hx
  rw [List.contains_cons, this, Bool.false_or]
theorem com_consl (n : Nat) (a b : List Nat) (hb : n ∉ b) : com (n :: a) b = com a b := by
  unfold com
  rw [List.filter_cons, if_neg (by simpa using hb)]
theorem set_step : ∀ {o k : Nat} {bs : List Bool}, k < bs.length → (idxs o bs).length + (idxs o (flip bs k)).length = 2 * com (idxs o bs) (idxs o (flip bs k)) + 1
  | _, _, [], h => by simp at h
  | o, 0, b :: r, _ => by
    have hn : o ∉ idxs (o + 1) r := fun h => by have := idxs_ge o h; omega
    have hs := com_self (idxs (o + 1) r)
    cases b
    · simp only [flip, idxs, Bool.not_false, Bool.false_eq_true, if_false, if_true, List.length_cons]
      rw [com_consr _ _ _ hn, hs]; omega
    · simp only [flip, idxs, Bool.not_true, Bool.false_eq_true, if_false, if_true, List.length_cons]
      rw [com_consl _ _ _ hn, hs]; omega
  | o, k + 1, b :: r, h => by
    have ih := set_step (o := o + 1) (k := k) (bs := r) (by simpa using h)
    have hn : o ∉ idxs (o + 1) r := fun h => by have := idxs_ge o h; omega
    cases b
    · simp only [flip, idxs, Bool.false_eq_true, if_false]; exact ih
    · simp only [flip, idxs, if_true, List.length_cons]
      rw [com_cons' _ _ _ hn]; omega
end M

end Go.Proofs.Ytomaodhlcacobaa
