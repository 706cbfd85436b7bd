/- Plain mathematics of mixed digits, of no program. -/
set_option linter.unusedVariables false
set_option linter.unusedSimpArgs false
namespace Go.Proofs.Ytomaodhlcacobaa
namespace M
/-! mixed digits -/
def prod : List Nat → Nat
  | [] => 1
  | a :: r => a * prod r
/-- told backwards where the digit ahead is odd -/
def turn (R d r : Nat) : Nat := if d % 2 = 1 then R - 1 - r else r
def mix : List Nat → Nat → List Nat
  | [], _ => []
  | _ :: r, k => k / prod r :: mix r (turn (prod r) (k / prod r) (k % prod r))
def mrk : List Nat → List Nat → Nat
  | _ :: r, d :: ds => d * prod r + turn (prod r) d (mrk r ds)
  | _, _ => 0
theorem prod_pos : ∀ {l : List Nat}, (∀ x ∈ l, 0 < x) → 0 < prod l
  | [], _ => by decide
  | a :: r, h => Nat.mul_pos (h a (by simp)) (prod_pos (fun x hx => h x (by simp [hx])))
theorem turn_lt {R d r : Nat} (h : r < R) : turn R d r < R := by unfold turn; split <;> omega
theorem turn_turn {R d r : Nat} (h : r < R) : turn R d (turn R d r) = r := by unfold turn; split <;> omega
theorem mix_length : ∀ (l : List Nat) (k : Nat), (mix l k).length = l.length
  | [], _ => rfl
  | _ :: r, k => by simp [mix, mix_length r]
theorem mrk_mix : ∀ {l : List Nat} {k : Nat}, (∀ x ∈ l, 0 < x) → k < prod l → mrk l (mix l k) = k
  | [], k, _, h => by simp [prod] at h; simp [mix, mrk, h]
  | a :: r, k, hp, h => by
    have hpr := prod_pos (l := r) (fun x hx => hp x (by simp [hx]))
    have hm := Nat.mod_lt k hpr
    rw [mix, mrk, mrk_mix (fun x hx => hp x (by simp [hx])) (turn_lt hm), turn_turn hm]
    have := Nat.div_add_mod k (prod r)
    rw [Nat.mul_comm] at this
    exact this
/-- digits, each less than its limit -/
inductive Dig : List Nat → List Nat → Prop
  | nil : Dig [] []
  | cons {a d : Nat} {l ds : List Nat} (h : d < a) (t : Dig l ds) : Dig (a :: l) (d :: ds)
theorem Dig.pos : ∀ {l ds : List Nat}, Dig l ds → ∀ x ∈ l, 0 < x
  | _, _, .cons h t, x, hx => by
    rcases List.mem_cons.1 hx with rfl | hx
    · omega
    · exact t.pos x hx
theorem mix_dig : ∀ {l : List Nat} {k : Nat}, (∀ x ∈ l, 0 < x) → k < prod l → Dig l (mix l k)
  | [], k, _, h => .nil
  | a :: r, k, hp, h => by
    have hpr := prod_pos (l := r) (fun x hx => hp x (by simp [hx]))
    have hm := Nat.mod_lt k hpr
    rw [mix]
    exact .cons (Nat.div_lt_of_lt_mul (by rw [Nat.mul_comm]; exact h)) (mix_dig (fun x hx => hp x (by simp [hx])) (turn_lt hm))
theorem mix_mrk : ∀ {l ds : List Nat}, Dig l ds → mix l (mrk l ds) = ds ∧ mrk l ds < prod l
  | _, _, .nil => ⟨rfl, by decide⟩
  | _, _, .cons (a := a) (d := d) (l := l) (ds := ds) h t => by
    obtain ⟨h1, h2⟩ := mix_mrk t
    have hl := turn_lt (d := d) h2
    have hd : (d * prod l + turn (prod l) d (mrk l ds)) / prod l = d := by
      rw [Nat.mul_comm, Nat.mul_add_div (by omega), Nat.div_eq_of_lt hl]; rfl
    have hm : (d * prod l + turn (prod l) d (mrk l ds)) % prod l = turn (prod l) d (mrk l ds) := by
      rw [Nat.mul_comm, Nat.mul_add_mod, Nat.mod_eq_of_lt hl]
    constructor
    · rw [mrk, mix, hd, hm, turn_turn h2, h1]
    · rw [mrk, prod]
      have : (d + 1) * prod l ≤ a * prod l := Nat.mul_le_mul_right _ h
      rw [Nat.add_mul] at this
      omega
/-- in how many places two lists differ -/
def dif : List Nat → List Nat → Nat
  | x :: a, y :: b => (if x = y then 0 else 1) + dif a b
  | _, _ => 0
theorem dif_self : ∀ a : List Nat, dif a a = 0
  | [] => rfl
  | x :: a => by rw [dif, if_pos rfl, dif_self a]
theorem dif_comm : ∀ a b : List Nat, dif a b = dif b a
  | [], [] => rfl
  | [], _ :: _ => rfl
  | _ :: _, [] => rfl
  | x :: a, y :: b => by
    rw [dif, dif, dif_comm a b]
    by_cases h : x = y
    · rw [if_pos h, if_pos h.symm]
    · rw [if_neg h, if_neg (Ne.symm h)]
theorem mix_step : ∀ {l : List Nat} {k : Nat}, (∀ x ∈ l, 0 < x) → k + 1 < prod l → dif (mix l k) (mix l (k + 1)) = 1
  | [], k, _, h => by simp [prod] at h
  | a :: r, k, hp, h => by
    have hpr := prod_pos (l := r) (fun x hx => hp x (by simp [hx]))
    have hm := Nat.mod_lt k hpr
    have h2 := Nat.div_add_mod k (prod r)
    rw [mix, mix, dif]
    by_cases e : k % prod r + 1 < prod r
    · have hk : k + 1 = prod r * (k / prod r) + (k % prod r + 1) := by omega
      have hd : (k + 1) / prod r = k / prod r := by
        rw [hk, Nat.mul_add_div hpr, Nat.div_eq_of_lt e]; rfl
      have hm2 : (k + 1) % prod r = k % prod r + 1 := by
        rw [hk, Nat.mul_add_mod, Nat.mod_eq_of_lt e]
      rw [hd, hm2, if_pos rfl, Nat.zero_add]
      unfold turn
      split
      · have := mix_step (l := r) (k := prod r - 1 - (k % prod r + 1)) (fun x hx => hp x (by simp [hx])) (by omega)
        rw [show prod r - 1 - (k % prod r + 1) + 1 = prod r - 1 - k % prod r by omega] at this
        rw [dif_comm]; exact this
      · exact mix_step (fun x hx => hp x (by simp [hx])) e
    · have e' : k % prod r = prod r - 1 := by omega
      have hk : k + 1 = prod r * (k / prod r + 1) + 0 := by rw [Nat.mul_add]; omega
      have hd : (k + 1) / prod r = k / prod r + 1 := by rw [hk, Nat.mul_add_div hpr]; simp
      have hm2 : (k + 1) % prod r = 0 := by rw [hk, Nat.mul_add_mod]; simp
      rw [hd, hm2, e', if_neg (by omega)]
      have : turn (prod r) (k / prod r) (prod r - 1) = turn (prod r) (k / prod r + 1) 0 := by
        unfold turn
        by_cases q : k / prod r % 2 = 1
        · rw [if_pos q, if_neg (by omega)]; omega
        · rw [if_neg q, if_pos (by omega)]; omega
      rw [this, dif_self]
end M

end Go.Proofs.Ytomaodhlcacobaa
