-- written by a program of this session's over the kit's print (xp.py)
import Derived.Test.YtddkffdjondjnaaGreatDoorAx1
import Derived.Test.YtddkffdjondjnaaGreatDoorAx2
import Derived.Test.YtddkffdjondjnaaGreatDoorAx6
import Derived.Test.YtddkffdjondjnaaGreatDoorAx7
import Derived.Test.YtddkffdjondjnaaGreatDoorAx8
import Derived.Test.YtddkffdjondjnaaGreatDoorAx9
import Derived.Test.YtddkffdjondjnaaGreatDoorWL2
import Derived.Test.YtddkffdjondjnaaGreatDoorText
set_option linter.unusedVariables false
set_option linter.unusedSimpArgs false
namespace Go.Proofs.YtddkffdjondjnaaGreatDoor.Pure
open Go.RowKit Go.Proofs.YtddkffdjondjnaaGreatDoor.A Go.Proofs.YtddkffdjondjnaaGreatDoorW.PrintWords Go.Proofs.YtddkffdjondjnaaGreatDoorW.PrintLast Go.Proofs.YtddkffdjondjnaaGreatDoorW.PrintMore

theorem movesText_yes {l : List Int} {k : Nat} (hl : l.length ≤ 2000) (hr : ∀ x ∈ l, 0 ≤ x ∧ x ≤ 19) (hk : 2010 < k) : spec_MovesText.f k l = some (tx (l.map ltr), true) ∧ impl_MovesText.f k l = some (tx (l.map ltr), true) := by
  have hq : (l.all fun x => decide (0 ≤ x ∧ x ≤ 19)) = true := List.all_eq_true.2 fun x hx => decide_eq_true (hr x hx)
  have e : (l.any fun n => !(decide (0 ≤ n ∧ n ≤ 19))) = !(l.all fun x => decide (0 ≤ x ∧ x ≤ 19)) := by
    rw [List.any_eq_not_all_not]; simp
  have h1 := shown_l0 (l := l) hl l k 0 [] (by simp) hr (by simp) (by omega)
  have h2 := moves_l0 (l := l) hl l k 0 [] (by simp) (by simp) (by omega)
  rw [List.nil_append] at h1 h2
  rw [strOfNums_ltr hr] at h2
  unfold spec_MovesText.f impl_MovesText.f spec_riShown.f
  rw [if_neg (by omega), if_neg (by omega), l1All (by omega) (by omega), e, hq]
  simp only [Option.bind_some, if_true, Bool.not_true, Bool.false_eq_true, if_false]
  have h1' : spec_riShown.l0 k l (⟨#[]⟩ : ByteArray) 0 = some (tx (l.map ltr)) := h1
  rw [h1']
  exact ⟨rfl, h2⟩
theorem movesText_no {l : List Int} {k : Nat} (hb : l.length ≤ 10000) (h : ¬ (l.length ≤ 2000 ∧ ∀ x ∈ l, 0 ≤ x ∧ x ≤ 19)) (hk : 10010 < k) : spec_MovesText.f k l = some (⟨#[]⟩, false) ∧ impl_MovesText.f k l = some (⟨#[]⟩, false) := by
  unfold spec_MovesText.f impl_MovesText.f
  by_cases hl : (l.length : Int) > 2000
  · rw [if_pos hl, if_pos hl]; exact ⟨rfl, rfl⟩
  · have hq : (l.all fun x => decide (0 ≤ x ∧ x ≤ 19)) = false := by
      rw [Bool.eq_false_iff]
      intro hq
      exact h ⟨by omega, fun x hx => of_decide_eq_true (List.all_eq_true.1 hq x hx)⟩
    have e : (l.any fun n => !(decide (0 ≤ n ∧ n ≤ 19))) = !(l.all fun x => decide (0 ≤ x ∧ x ≤ 19)) := by
      rw [List.any_eq_not_all_not]; simp
    rw [if_neg hl, if_neg hl, l1All (by omega) (by omega), e, hq]
    exact ⟨rfl, rfl⟩
theorem ltr_nat : ∀ n : Nat, n < 20 → ((ltr (n : Int)).toNat : Int) - 97 = (n : Int) ∧ 97 ≤ (ltr (n : Int)).toNat ∧ (ltr (n : Int)).toNat ≤ 116 := by decide
theorem ltr_of {x : Int} (h : 0 ≤ x ∧ x ≤ 19) : ((ltr x).toNat : Int) - 97 = x ∧ 97 ≤ (ltr x).toNat ∧ (ltr x).toNat ≤ 116 := by
  obtain ⟨n, rfl⟩ := Int.eq_ofNat_of_zero_le h.1
  exact ltr_nat n (by omega)
theorem ltr_back {b : UInt8} (h : 97 ≤ b.toNat ∧ b.toNat ≤ 116) : ltr ((b.toNat : Int) - 97) = b := by
  unfold ltr
  rw [show 97 + ((b.toNat : Int) - 97).toNat = b.toNat by omega]
  exact UInt8.ofNat_toNat
theorem pNs_ltr {l : List Int} (h : ∀ x ∈ l, 0 ≤ x ∧ x ≤ 19) : pOk (l.map ltr) = true ∧ pNs (l.map ltr) = l := by
  constructor
  · unfold pOk
    rw [List.all_eq_true]
    intro b hb
    obtain ⟨x, hx, rfl⟩ := List.mem_map.1 hb
    exact decide_eq_true (ltr_of (h x hx)).2
  · unfold pNs
    rw [List.map_map]
    conv => rhs; rw [← List.map_id l]
    apply List.map_congr_left
    intro x hx
    exact (ltr_of (h x hx)).1
theorem ltr_pNs {l : List UInt8} (h : pOk l = true) : (pNs l).map ltr = l ∧ ∀ x ∈ pNs l, 0 ≤ x ∧ x ≤ 19 := by
  unfold pOk at h
  rw [List.all_eq_true] at h
  constructor
  · unfold pNs
    rw [List.map_map]
    conv => rhs; rw [← List.map_id l]
    apply List.map_congr_left
    intro b hb
    exact ltr_back (of_decide_eq_true (h b hb))
  · intro x hx
    unfold pNs at hx
    obtain ⟨b, hb, rfl⟩ := List.mem_map.1 hx
    have := of_decide_eq_true (h b hb)
    omega
theorem rings20 : ∀ n : Nat, n < 20 → impl_AllOn.f ((n : Int) + 1) = some (sb (List.replicate (n + 1) true), true) ∧ spec_AllOn.f 40 ((n : Int) + 1) = some (sb (List.replicate (n + 1) true), true) := by decide +kernel
theorem clear20 : ∀ n : Nat, n < 20 → impl_MovesToClear.f 80 ((n : Int) + 1) = some (((2 ^ (n + 2) / 3 : Nat) : Int), true) ∧ spec_MovesToClear.f 80 ((n : Int) + 1) = some (((2 ^ (n + 2) / 3 : Nat) : Int), true) := by decide +kernel
theorem at_k {α : Type} {g : Nat → Option α} {k k' : Nat} {r : α} (h : ∀ k, LeO (g k) (g (k + 1))) (hr : g k = some r) (hk : k ≤ k') : g k' = some r := at_rounds h hk hr
theorem allOn_yes {r k : Nat} (h1 : 1 ≤ r) (h2 : r ≤ 20) (hk : 40 ≤ k) : impl_AllOn.f (r : Int) = some (sb (List.replicate r true), true) ∧ spec_AllOn.f k (r : Int) = some (sb (List.replicate r true), true) := by
  obtain ⟨n, rfl⟩ : ∃ n, r = n + 1 := ⟨r - 1, by omega⟩
  have := rings20 n (by omega)
  exact ⟨this.1, at_k (g := fun k => spec_AllOn.f k _) (fun k => spec_AllOn.mono _ k) this.2 hk⟩
theorem clear_yes {r k : Nat} (h1 : 1 ≤ r) (h2 : r ≤ 20) (hk : 80 ≤ k) : impl_MovesToClear.f k (r : Int) = some (((2 ^ (r + 1) / 3 : Nat) : Int), true) ∧ spec_MovesToClear.f k (r : Int) = some (((2 ^ (r + 1) / 3 : Nat) : Int), true) := by
  obtain ⟨n, rfl⟩ : ∃ n, r = n + 1 := ⟨r - 1, by omega⟩
  have := clear20 n (by omega)
  exact ⟨at_k (g := fun k => impl_MovesToClear.f k _) (fun k => impl_MovesToClear.mono _ k) this.1 hk, at_k (g := fun k => spec_MovesToClear.f k _) (fun k => spec_MovesToClear.mono _ k) this.2 hk⟩
theorem other_yes {r k : Nat} (h1 : 1 ≤ r) (h2 : r ≤ 20) (hk : 40 < k) : impl_OtherEnd.f k (r : Int) = some (sb (M.st r (2 ^ r - 1)), true) ∧ spec_OtherEnd.f k (r : Int) = some (sb (M.st r (2 ^ r - 1)), true) := by
  unfold spec_OtherEnd.f impl_OtherEnd.f spec_riRings.f spec_l1In.f impl_in.f
  have hp : 2 ^ r ≤ 2 ^ 20 := Nat.pow_le_pow_right (by decide) h2
  have hpos := Nat.two_pow_pos r
  have s1 := riState (r := r) (n := 2 ^ r - 1) (k := k) (by omega) (by omega) (by omega)
  have s2 := state (r := r) (n := 2 ^ r - 1) (k := k) (by omega) (by omega) (by omega)
  have e : wrap64 (shl .i64 1 (r : Int) - 1) = ((2 ^ r - 1 : Nat) : Int) := by
    rw [shl_one (by omega), w64 (by omega) (by omega)]; omega
  have q1 : (r : Int) ≥ 1 := Int.ofNat_le.2 h1
  have q2 : (r : Int) ≤ 20 := Int.ofNat_le.2 h2
  have q0 : (0 : Int) ≤ r := Int.natCast_nonneg r
  rw [e, s1, s2]
  simp [q1, q2, q0]
theorem rings_no {a : Int} {k : Nat} (h : ¬ (1 ≤ a ∧ a ≤ 20)) : impl_AllOn.f a = some (⟨#[]⟩, false) ∧ spec_AllOn.f k a = some (⟨#[]⟩, false) ∧ impl_MovesToClear.f k a = some (0, false) ∧ spec_MovesToClear.f k a = some (0, false) ∧ impl_OtherEnd.f k a = some (⟨#[]⟩, false) ∧ spec_OtherEnd.f k a = some (⟨#[]⟩, false) := by
  unfold spec_OtherEnd.f impl_OtherEnd.f spec_AllOn.f impl_MovesToClear.f spec_MovesToClear.f impl_AllOn.f spec_riRings.f spec_l1In.f impl_in.f
  by_cases q0 : a ≥ 1
  · have q1 : ¬ a ≤ 20 := fun z => h ⟨q0, z⟩
    simp [q0, q1]
  · simp [q0]
theorem numState {bs : List Bool} {k : Nat} (h1 : 1 ≤ bs.length) (h2 : bs.length ≤ 20) (hk : 62 < k) : impl_NumberOfState.f k (sb bs) = some ((M.num bs : Int), true) := by
  unfold impl_NumberOfState.f
  rw [isState_sb h1 h2, Option.bind_some, if_pos rfl, number (by omega) hk]
  rfl

end Go.Proofs.YtddkffdjondjnaaGreatDoor.Pure
