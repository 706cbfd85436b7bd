/- Plain mathematics of orders by swaps, of no program. -/
set_option linter.unusedVariables false
set_option linter.unusedSimpArgs false
namespace Go.Proofs.Ytomaodhlcacobaa
namespace M
theorem modlt (k s : Nat) : k % (s + 1) < s + 1 := Nat.mod_lt _ (Nat.succ_pos _)
/-! orders by swaps -/
def ins (a x : Nat) (l : List Nat) : List Nat := l.take a ++ x :: l.drop a
theorem ins_length (a x : Nat) (l : List Nat) : (ins a x l).length = l.length + 1 := by
  unfold ins; simp; omega
theorem ins_zero (x : Nat) (l : List Nat) : ins 0 x l = x :: l := rfl
theorem ins_succ (a x y : Nat) (l : List Nat) : ins (a + 1) x (y :: l) = y :: ins a x l := rfl
theorem mem_ins {a x y : Nat} {l : List Nat} : y ∈ ins a x l ↔ y = x ∨ y ∈ l := by
  unfold ins
  have h := List.take_append_drop a l
  constructor
  · intro hh
    rcases List.mem_append.1 hh with hh | hh
    · exact .inr (List.mem_of_mem_take hh)
    · rcases List.mem_cons.1 hh with hh | hh
      · exact .inl hh
      · exact .inr (List.mem_of_mem_drop hh)
  · rintro (rfl | hh)
    · simp
    · rw [← h] at hh
      rcases List.mem_append.1 hh with hh | hh
      · exact List.mem_append.2 (.inl hh)
      · exact List.mem_append.2 (.inr (List.mem_cons.2 (.inr hh)))
/-- where the greatest is put in -/
def spl (s k : Nat) : Nat := if k / (s + 1) % 2 = 0 then s - k % (s + 1) else k % (s + 1)
theorem spl_le (s k : Nat) : spl s k ≤ s := by
  have := modlt k s
  unfold spl; split <;> omega
def sw : Nat → Nat → List Nat
  | 0, _ => []
  | s + 1, k => ins (spl s k) s (sw s (k / (s + 1)))
theorem sw_length : ∀ s k : Nat, (sw s k).length = s
  | 0, _ => rfl
  | s + 1, k => by rw [sw, ins_length, sw_length s]
theorem sw_lt : ∀ {s k : Nat}, ∀ x ∈ sw s k, x < s
  | 0, _, x, h => by simp [sw] at h
  | s + 1, k, x, h => by
    rw [sw] at h
    rcases mem_ins.1 h with rfl | h
    · omega
    · have := sw_lt x h; omega
theorem nodup_ins {a x : Nat} {l : List Nat} (h : l.Nodup) (hx : x ∉ l) : (ins a x l).Nodup := by
  induction l generalizing a with
  | nil => cases a <;> simp [ins]
  | cons y r ih =>
    obtain ⟨h1, h2⟩ := List.nodup_cons.1 h
    cases a with
    | zero => rw [ins_zero]; exact List.nodup_cons.2 ⟨hx, h⟩
    | succ a =>
      rw [ins_succ]
      refine List.nodup_cons.2 ⟨?_, ih h2 (fun hh => hx (List.mem_cons.2 (.inr hh)))⟩
      intro hh
      rcases mem_ins.1 hh with rfl | hh
      · exact hx (by simp)
      · exact h1 hh
theorem sw_nodup : ∀ {s k : Nat}, (sw s k).Nodup
  | 0, _ => by simp [sw]
  | s + 1, k => by
    rw [sw]; exact nodup_ins sw_nodup (fun h => by have := sw_lt _ h; omega)
def fact : Nat → Nat
  | 0 => 1
  | s + 1 => fact s * (s + 1)
theorem fact_pos : ∀ s, 0 < fact s
  | 0 => by decide
  | s + 1 => Nat.mul_pos (fact_pos s) (Nat.succ_pos s)
/-- the rank of a list, by what is less than k -/
def idx (x : Nat) : List Nat → Nat
  | [] => 0
  | y :: r => if y = x then 0 else idx x r + 1
def below (k : Nat) (l : List Nat) : List Nat := l.filter (· < k)
/-- one step of the rank: r is the rank without the number s, a its place -/
def rst (s r a : Nat) : Nat := r * (s + 1) + (if r % 2 = 0 then s - a else a)
def srk : Nat → List Nat → Nat
  | 0, _ => 0
  | s + 1, l => rst s (srk s l) (idx s (below (s + 1) l))
theorem below_below {j k : Nat} (h : j ≤ k) (l : List Nat) : below j (below k l) = below j l := by
  unfold below
  rw [List.filter_filter]
  apply List.filter_congr
  intro x _
  by_cases q : x < j
  · have : x < k := by omega
    simp [q, this]
  · simp [q]
theorem srk_below : ∀ {s k : Nat} (l : List Nat), s ≤ k → srk s (below k l) = srk s l
  | 0, _, _, _ => rfl
  | s + 1, k, l, h => by rw [srk, srk, srk_below l (by omega), below_below h]
theorem below_ins {a s : Nat} {l : List Nat} (h : ∀ x ∈ l, x < s) : below s (ins a s l) = l := by
  unfold below ins
  rw [List.filter_append, List.filter_cons, if_neg (by simp), ← List.filter_append, List.take_append_drop]
  rw [List.filter_eq_self]
  intro x hx
  simpa using h x hx
theorem below_all {k : Nat} {l : List Nat} (h : ∀ x ∈ l, x < k) : below k l = l := by
  unfold below; rw [List.filter_eq_self]; intro x hx; simpa using h x hx
theorem idx_ins {x : Nat} : ∀ {a : Nat} {l : List Nat}, x ∉ l → a ≤ l.length → idx x (ins a x l) = a
  | 0, l, _, _ => by rw [ins_zero, idx, if_pos rfl]
  | a + 1, [], _, h => by simp at h
  | a + 1, y :: r, hx, h => by
    rw [ins_succ, idx, if_neg (fun e => hx (by rw [e]; simp)), idx_ins (fun hh => hx (List.mem_cons.2 (.inr hh))) (by simpa using h)]
theorem srk_sw : ∀ {s k : Nat}, k < fact s → srk s (sw s k) = k
  | 0, k, h => by simp [fact] at h; simp [srk, h]
  | s + 1, k, h => by
    have hq : k / (s + 1) < fact s := Nat.div_lt_of_lt_mul (by rw [Nat.mul_comm]; exact h)
    have ih := srk_sw hq
    rw [srk, below_all (fun x hx => sw_lt x hx)]
    have e1 : srk s (sw (s + 1) k) = k / (s + 1) := by
      rw [← srk_below _ (Nat.le_refl s), sw, below_ins (fun x hx => sw_lt x hx), ih]
    rw [e1, sw, idx_ins (fun hh => by have := sw_lt _ hh; omega) (by rw [sw_length]; exact spl_le s k)]
    have h2 := Nat.div_add_mod k (s + 1)
    have h3 := modlt k s
    unfold rst spl
    rw [Nat.mul_comm] at h2
    split <;> omega
/-- a list that has each of 0, .., s - 1 once -/
structure Perm (s : Nat) (l : List Nat) : Prop where
  len : l.length = s
  lt : ∀ x ∈ l, x < s
  nodup : l.Nodup
theorem idx_lt {x : Nat} : ∀ {l : List Nat}, x ∈ l → idx x l < l.length
  | y :: r, h => by
    rw [idx]
    split
    · simp
    · rcases List.mem_cons.1 h with rfl | h
      · exact absurd rfl ‹_›
      · have := idx_lt h; simp; omega
theorem ins_idx {x : Nat} : ∀ {l : List Nat}, x ∈ l → l.Nodup → ins (idx x l) x (l.filter (· ≠ x)) = l
  | y :: r, h, hn => by
    obtain ⟨h1, h2⟩ := List.nodup_cons.1 hn
    rw [idx]
    by_cases e : y = x
    · subst e
      rw [if_pos rfl, ins_zero, List.filter_cons, if_neg (by simp)]
      congr 1
      rw [List.filter_eq_self]
      intro z hz
      have : z ≠ y := fun e => h1 (e ▸ hz)
      simp [this]
    · rw [if_neg e, List.filter_cons, if_pos (by simpa using e), ins_succ]
      rcases List.mem_cons.1 h with rfl | h
      · exact absurd rfl e
      · rw [ins_idx h h2]
theorem nodup_lt_length : ∀ {s : Nat} {l : List Nat}, l.Nodup → (∀ x ∈ l, x < s) → l.length ≤ s
  | 0, [], _, _ => by simp
  | 0, x :: r, _, h => by have := h x (by simp); omega
  | s + 1, l, hn, h => by
    by_cases hs : s ∈ l
    · have := nodup_lt_length (s := s) (l := l.filter (· ≠ s)) (hn.filter _) (by
        intro x hx
        have hx2 := List.mem_filter.1 hx
        have := h x hx2.1
        have : x ≠ s := by simpa using hx2.2
        omega)
      have e := congrArg List.length (ins_idx hs hn)
      rw [ins_length] at e
      omega
    · have := nodup_lt_length (s := s) hn (by
        intro x hx
        have := h x hx
        have : x ≠ s := fun e => hs (e ▸ hx)
        omega)
      omega
theorem Perm.mem {s : Nat} {l : List Nat} (h : Perm (s + 1) l) : s ∈ l := by
  by_cases hs : s ∈ l
  · exact hs
  · have := nodup_lt_length (s := s) h.nodup (by
      intro x hx
      have := h.lt x hx
      have : x ≠ s := fun e => hs (e ▸ hx)
      omega)
    have := h.len
    omega
theorem Perm.filter_ne {s : Nat} {l : List Nat} (h : Perm (s + 1) l) : l.filter (· ≠ s) = below s l := by
  unfold below
  apply List.filter_congr
  intro x hx
  have := h.lt x hx
  by_cases e : x = s
  · simp [e]
  · have : x < s := by omega
    simp [e, this]
theorem Perm.below {s : Nat} {l : List Nat} (h : Perm (s + 1) l) : Perm s (below s l) := by
  have e := congrArg List.length (ins_idx h.mem h.nodup)
  rw [ins_length, h.filter_ne] at e
  have := h.len
  refine ⟨by omega, ?_, h.nodup.filter _⟩
  intro x hx
  simpa using (List.mem_filter.1 hx).2
theorem sw_srk : ∀ {s : Nat} {l : List Nat}, Perm s l → sw s (srk s l) = l ∧ srk s l < fact s
  | 0, l, h => by
    have := List.length_eq_zero_iff.1 h.len
    subst this
    exact ⟨rfl, by decide⟩
  | s + 1, l, h => by
    obtain ⟨h1, h2⟩ := sw_srk h.below
    rw [srk_below _ (Nat.le_refl s)] at h1 h2
    have hi := idx_lt h.mem
    rw [h.len] at hi
    have e := ins_idx h.mem h.nodup
    rw [h.filter_ne] at e
    rw [srk, below_all h.lt]
    generalize hr : srk s l = r at *
    generalize ha : idx s l = a at *
    have hd : rst s r a / (s + 1) = r := by
      unfold rst
      rw [Nat.mul_comm, Nat.mul_add_div (Nat.succ_pos s), Nat.div_eq_of_lt (by split <;> omega)]
      rfl
    have hm : rst s r a % (s + 1) = if r % 2 = 0 then s - a else a := by
      unfold rst
      rw [Nat.mul_comm, Nat.mul_add_mod, Nat.mod_eq_of_lt (by split <;> omega)]
    constructor
    · rw [sw, hd, h1]
      have : spl s (rst s r a) = a := by
        unfold spl
        rw [hd, hm]
        split <;> omega
      rw [this]; exact e
    · have : rst s r a < (r + 1) * (s + 1) := by
        unfold rst
        rw [Nat.add_mul]
        split <;> omega
      rw [fact]
      exact Nat.lt_of_lt_of_le this (Nat.mul_le_mul_right _ (by omega))
theorem sw_perm (s k : Nat) : Perm s (sw s k) := ⟨sw_length s k, sw_lt, sw_nodup⟩
/-- two lists: those at p and behind it exchanged -/
inductive Ex : Nat → List Nat → List Nat → Prop
  | here (x y : Nat) (r : List Nat) (h : x ≠ y) : Ex 0 (x :: y :: r) (y :: x :: r)
  | there (x : Nat) {p : Nat} {a b : List Nat} (h : Ex p a b) : Ex (p + 1) (x :: a) (x :: b)
theorem ex_ins_end : ∀ {p : Nat} {a b : List Nat} (x : Nat), Ex p a b → Ex p (a ++ [x]) (b ++ [x])
  | _, _, _, x, .here u v r h => .here u v (r ++ [x]) h
  | _, _, _, x, .there u h => .there u (ex_ins_end x h)
theorem ex_up : ∀ {a x : Nat} {l : List Nat}, a < l.length → x ∉ l → Ex a (ins a x l) (ins (a + 1) x l)
  | _, _, [], h, _ => by simp at h
  | 0, x, y :: r, _, hx => by
    rw [ins_zero, ins_succ, ins_zero]
    exact .here x y r (fun e => hx (by rw [e]; simp))
  | a + 1, x, y :: r, h, hx => by
    rw [ins_succ, ins_succ]
    exact .there y (ex_up (by simpa using h) (fun hh => hx (List.mem_cons.2 (.inr hh))))
theorem Ex.symm : ∀ {p : Nat} {a b : List Nat}, Ex p a b → Ex p b a
  | _, _, _, .here u v r h => .here v u r (Ne.symm h)
  | _, _, _, .there u h => .there u h.symm
theorem ins_end (x : Nat) (l : List Nat) : ins l.length x l = l ++ [x] := by unfold ins; simp
theorem sw_step : ∀ {s k : Nat}, k + 1 < fact s → ∃ p, Ex p (sw s k) (sw s (k + 1))
  | 0, k, h => by simp [fact] at h
  | s + 1, k, h => by
    have hs : s ∉ sw s (k / (s + 1)) := fun hh => by have := sw_lt _ hh; omega
    have h3 := modlt k s
    have h2 := Nat.div_add_mod k (s + 1)
    rw [sw, sw]
    by_cases e : k % (s + 1) + 1 < s + 1
    · have hd : (k + 1) / (s + 1) = k / (s + 1) := by
        have : k + 1 = (s + 1) * (k / (s + 1)) + (k % (s + 1) + 1) := by omega
        rw [this, Nat.mul_add_div (Nat.succ_pos s), Nat.div_eq_of_lt e]; rfl
      have hm : (k + 1) % (s + 1) = k % (s + 1) + 1 := by
        have : k + 1 = (s + 1) * (k / (s + 1)) + (k % (s + 1) + 1) := by omega
        rw [this, Nat.mul_add_mod, Nat.mod_eq_of_lt e]
      rw [hd]
      by_cases q : k / (s + 1) % 2 = 0
      · have e1 : spl s k = s - k % (s + 1) - 1 + 1 := by unfold spl; rw [if_pos q]; omega
        have e2 : spl s (k + 1) = s - k % (s + 1) - 1 := by unfold spl; rw [hd, hm, if_pos q]; omega
        rw [e1, e2]
        exact ⟨_, (ex_up (by rw [sw_length]; omega) hs).symm⟩
      · have e1 : spl s k = k % (s + 1) := by unfold spl; rw [if_neg q]
        have e2 : spl s (k + 1) = k % (s + 1) + 1 := by unfold spl; rw [hd, hm, if_neg q]
        rw [e1, e2]
        exact ⟨_, ex_up (by rw [sw_length]; omega) hs⟩
    · have e' : k % (s + 1) = s := by omega
      have hk : k + 1 = (s + 1) * (k / (s + 1) + 1) + 0 := by rw [Nat.mul_add]; omega
      have hd : (k + 1) / (s + 1) = k / (s + 1) + 1 := by rw [hk, Nat.mul_add_div (Nat.succ_pos s)]; simp
      have hm : (k + 1) % (s + 1) = 0 := by rw [hk, Nat.mul_add_mod]; simp
      have hlt : k / (s + 1) + 1 < fact s := by
        rw [← hd]; exact Nat.div_lt_of_lt_mul (by rw [Nat.mul_comm]; exact h)
      obtain ⟨p, hp⟩ := sw_step hlt
      rw [hd]
      by_cases q : k / (s + 1) % 2 = 0
      · have e1 : spl s k = 0 := by unfold spl; rw [if_pos q, e']; omega
        have e2 : spl s (k + 1) = 0 := by unfold spl; rw [hd, hm, if_neg (by omega)]
        rw [e1, e2, ins_zero, ins_zero]
        exact ⟨_, .there s hp⟩
      · have e1 : spl s k = s := by unfold spl; rw [if_neg q, e']
        have e2 : spl s (k + 1) = s := by unfold spl; rw [hd, hm, if_pos (by omega)]; omega
        have f1 := ins_end s (sw s (k / (s + 1)))
        have f2 := ins_end s (sw s (k / (s + 1) + 1))
        rw [sw_length] at f1 f2
        rw [e1, e2, f1, f2]
        exact ⟨_, ex_ins_end s hp⟩
end M

end Go.Proofs.Ytomaodhlcacobaa
