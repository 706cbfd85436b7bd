/- The law FnExactIsAllowed, told over plain functions, holds for all arguments whose rows are no longer than a row can be. -/
import Derived.Test.YtclomifkpciefaaDx0
import Derived.Test.YtclomifkpciefaaDx4
import Derived.Test.YtclomifkpciefaaDx7
import Derived.Test.YtclomifkpciefaaDx8
import Derived.Test.YtclomifkpciefaaDBolts
set_option linter.unusedVariables false
set_option linter.unusedSimpArgs false
namespace Go.Proofs.Ytclomifkpciefaa.Pure
open Go.RowKit Go.Proofs.Ytclomifkpciefaa.D Go.Proofs.YtclomifkpciefaaW.PrintWords Go.Proofs.YtclomifkpciefaaW.PrintLast Go.Proofs.YtclomifkpciefaaW.PrintMore

theorem boIs_eq (k : Nat) (l0 : List Int) (l1 : List S67) (a : ByteArray) (h : (a.size : Int) = (l0.length : Int)) : ∀ (k : Nat) (i : Int), spec_boIs.l0 k a l0 (l0.length : Int) i = impl_Bolts_isState.l0 k a (a.size : Int) i l0 l1 := by
  intro k
  induction k with
  | zero => intro i; rfl
  | succ k ih =>
    intro i
    rw [spec_boIs.l0, impl_Bolts_isState.l0, h]
    rw [h] at ih
    simp only [in_val0, in_dec0, ih]
/-- a text's sign is a place of a bolt -/
def okp (l0 : List Int) (a : ByteArray) (j : Nat) : Prop := 0 ≤ bt a (j : Int) - 48 ∧ bt a (j : Int) - 48 ≤ rd l0 (j : Int) - 1
theorem isState_l0 {l0 : List Int} (l1 : List S67) {a : ByteArray} (hl : l0.length ≤ 6) (hp : ∀ x ∈ l0, 2 ≤ x ∧ x ≤ 5) (h : (a.size : Int) = (l0.length : Int)) (d : Nat) : ∀ (i : Nat), i + d = l0.length →
    ∃ b : Bool, (b = true → ∀ j, i ≤ j → j < l0.length → okp l0 a j) ∧ ∀ k, d < k → impl_Bolts_isState.l0 k a (a.size : Int) (i : Int) l0 l1 = some b := by
  induction d with
  | zero =>
    intro i hi
    refine ⟨true, fun _ j h1 h2 => absurd h2 (by omega), fun k hk => ?_⟩
    obtain ⟨k, rfl⟩ : ∃ m, k = m + 1 := ⟨k - 1, by omega⟩
    rw [impl_Bolts_isState.l0, if_neg (by omega)]
  | succ d ih =>
    intro i hi
    obtain ⟨b, hb, hk'⟩ := ih (i + 1) (by omega)
    have hr := bt_range a (i : Int)
    have hm := hp _ (rd_mem (l := l0) (i := (i : Int)) ⟨by omega, by omega⟩)
    by_cases q : 0 ≤ bt a (i : Int) - 48 ∧ bt a (i : Int) - 48 ≤ rd l0 (i : Int) - 1
    · refine ⟨b, fun e j h1 h2 => ?_, fun k hk => ?_⟩
      · by_cases e2 : j = i
        · subst e2; exact q
        · exact hb e j (by omega) h2
      · obtain ⟨k, rfl⟩ : ∃ m, k = m + 1 := ⟨k - 1, by omega⟩
        rw [impl_Bolts_isState.l0, if_pos (by omega), if_pos (by omega), if_pos (by omega), if_pos (by omega), w64 (x := bt a (i : Int)) (by omega) (by omega), w64 (x := bt a (i : Int) - 48) (by omega) (by omega), w64 (x := rd l0 (i : Int) - 1) (by omega) (by omega), in_val0, decide_eq_true q]
        simp only [Option.bind_some, if_true]
        rw [w64 (by omega) (by omega), show ((i : Int) + 1) = ((i + 1 : Nat) : Int) by omega]
        exact hk' k (by omega)
    · refine ⟨false, (fun e => by cases e), fun k hk => ?_⟩
      obtain ⟨k, rfl⟩ : ∃ m, k = m + 1 := ⟨k - 1, by omega⟩
      rw [impl_Bolts_isState.l0, if_pos (by omega), if_pos (by omega), if_pos (by omega), if_pos (by omega), w64 (x := bt a (i : Int)) (by omega) (by omega), w64 (x := bt a (i : Int) - 48) (by omega) (by omega), w64 (x := rd l0 (i : Int) - 1) (by omega) (by omega), in_val0, decide_eq_false q]
      rfl
/-- a block is met -/
def hit (a : ByteArray) (x : S67) : Bool := decide (bt a x.f0 - 48 = x.f1) && decide (bt a x.f2 - 48 = x.f3)
theorem okp_int {l0 : List Int} {a : ByteArray} (hs : ∀ j, j < l0.length → okp l0 a j) {i : Int} (h : 0 ≤ i ∧ i < (l0.length : Int)) : 0 ≤ bt a i - 48 ∧ bt a i - 48 ≤ rd l0 i - 1 := by
  obtain ⟨n, rfl⟩ := Int.eq_ofNat_of_zero_le h.1
  exact hs n (by omega)
theorem hitB_val {l0 : List Int} {a : ByteArray} (hl : l0.length ≤ 6) (hp : ∀ x ∈ l0, 2 ≤ x ∧ x ≤ 5) (h : (a.size : Int) = (l0.length : Int)) (hs : ∀ j, j < l0.length → okp l0 a j) {x : S67} (ho : ob l0 x = true) : hitB a x = some (hit a x) := by
  obtain ⟨h1, h2, _, _, _⟩ := ob_facts hl hp ho
  have r0 := bt_range a x.f0
  have r2 := bt_range a x.f2
  unfold hitB hit
  rw [if_pos ⟨h1.1, by omega⟩, w64 (x := bt a x.f0) (by omega) (by omega), w64 (x := bt a x.f0 - 48) (by omega) (by omega), w64 (x := bt a x.f2) (by omega) (by omega), w64 (x := bt a x.f2 - 48) (by omega) (by omega)]
  by_cases q : bt a x.f0 - 48 = x.f1
  · rw [if_pos q, if_pos ⟨h2.1, by omega⟩, decide_eq_true q]; rfl
  · rw [if_neg q, decide_eq_false q]; rfl
theorem boFree_l0 {l0 : List Int} {l1 : List S67} {a : ByteArray} (hll : l1.length ≤ 2000000) (hl : l0.length ≤ 6) (hp : ∀ x ∈ l0, 2 ≤ x ∧ x ≤ 5) (h : (a.size : Int) = (l0.length : Int)) (hs : ∀ j, j < l0.length → okp l0 a j) (r : List S67) : ∀ (k i : Nat), l1.drop i = r → (∀ x ∈ r, ob l0 x = true) → r.length < k →
    spec_boFree.l0 k a l1 (l1.length : Int) (i : Int) = some (!(r.any (hit a))) := by
  induction r with
  | nil =>
    intro k i hd _ hk
    obtain ⟨k, rfl⟩ : ∃ m, k = m + 1 := ⟨k - 1, by omega⟩
    have : l1.length ≤ i := List.drop_eq_nil_iff.1 hd
    rw [spec_boFree.l0, if_neg (by omega)]; rfl
  | cons x r ih =>
    intro k i hd ho hk
    obtain ⟨k, rfl⟩ : ∃ m, k = m + 1 := ⟨k - 1, by omega⟩
    obtain ⟨h2, h3, h4⟩ := getElem?_drop_cons hd
    obtain ⟨g1, g2, _, _, _⟩ := ob_facts hl hp (ho x (by simp))
    have r0 := okp_int hs g1
    have r2 := okp_int hs g2
    have m0 := hp _ (rd_mem (l := l0) (i := x.f0) g1)
    have m2 := hp _ (rd_mem (l := l0) (i := x.f2) g2)
    have e0 : (bt a x.f0 - 48) % 256 = bt a x.f0 - 48 := by omega
    have e2 : (bt a x.f2 - 48) % 256 = bt a x.f2 - 48 := by omega
    have ei : Aside0 (wrap64 ((i : Int) + 1) = ((i + 1 : Nat) : Int)) := ⟨by rw [w64 (by omega) (by omega)]; omega⟩
    have hnext := ih k (i + 1) h3 (fun y hy => ho y (by simp [hy])) (by simp at hk; omega)
    rw [spec_boFree.l0, if_pos (by omega), if_pos (by omega), if_pos (by omega), rdT h2, if_pos g1.1, if_pos (show x.f0 < (a.size : Int) by omega), if_pos g2.1, if_pos (show x.f2 < (a.size : Int) by omega), e0, e2, ei.out, hnext, List.any_cons]
    unfold hit
    by_cases q1 : bt a x.f0 - 48 = x.f1
    · rw [if_pos q1, decide_eq_true q1]
      by_cases q2 : bt a x.f2 - 48 = x.f3
      · rw [if_pos q2, decide_eq_true q2]; rfl
      · rw [if_neg q2, decide_eq_false q2]; rfl
    · rw [if_neg q1, decide_eq_false q1]; rfl
theorem allowed {l0 : List Int} {l1 : List S67} {a : ByteArray} (hl : l0.length ≤ 6) (hp : ∀ x ∈ l0, 2 ≤ x ∧ x ≤ 5) (h : (a.size : Int) = (l0.length : Int)) (hs : ∀ j, j < l0.length → okp l0 a j) (ho : ∀ x ∈ l1, ob l0 x = true) : impl_Bolts_allowed.f l0 l1 a = some (!(l1.any (hit a))) := by
  have e1 : (l1.all fun x => (hitB a x).isSome) = true := by
    rw [List.all_eq_true]
    intro x hx
    rw [hitB_val hl hp h hs (ho x hx)]; rfl
  have e2 : (l1.any fun x => (hitB a x).getD false) = l1.any (hit a) := by
    apply Bool.eq_iff_iff.2
    rw [List.any_eq_true, List.any_eq_true]
    constructor
    · rintro ⟨x, hx, hh⟩
      rw [hitB_val hl hp h hs (ho x hx)] at hh
      exact ⟨x, hx, hh⟩
    · rintro ⟨x, hx, hh⟩
      refine ⟨x, hx, ?_⟩
      rw [hitB_val hl hp h hs (ho x hx)]; exact hh
  unfold impl_Bolts_allowed.f
  rw [if_pos e1, e2]
theorem isAllowed (l0 : List Int) (l1 : List S67) (a : ByteArray) (h0 : l0.length ≤ 1048576) (h1 : l1.length ≤ 1048576) : ∃ (r b : Bool), ∀ k, l0.length + l1.length + 20 < k → spec_IsAllowed.f k l0 l1 a = some (r, b) ∧ impl_IsAllowed.f k l0 l1 a = some (r, b) := by
  cases hg : gd l0 l1 with
  | false =>
    refine ⟨false, false, fun k hk => ?_⟩
    unfold spec_IsAllowed.f impl_IsAllowed.f
    rw [boGood (by omega) (by omega) (by omega), areBolts (by omega) (by omega), hg]
    exact ⟨rfl, rfl⟩
  | true =>
    obtain ⟨hl, hp, hb, ho⟩ := gd_facts hg
    by_cases hs : (a.size : Int) = (l0.length : Int)
    · obtain ⟨b, hb1, hb2⟩ := isState_l0 l1 hl.2 hp hs l0.length 0 (by omega)
      have e1 : ∀ k, l0.length < k → impl_Bolts_isState.f k l0 l1 a = some b := fun k hk => by unfold impl_Bolts_isState.f; rw [if_pos hs]; exact hb2 k hk
      have e2 : ∀ k, l0.length < k → spec_boIs.f k l0 l1 a = some b := fun k hk => by unfold spec_boIs.f; rw [if_pos hs, boIs_eq k l0 l1 a hs]; exact hb2 k hk
      cases b with
      | false =>
        refine ⟨false, false, fun k hk => ?_⟩
        unfold spec_IsAllowed.f impl_IsAllowed.f
        rw [boGood (by omega) (by omega) (by omega), areBolts (by omega) (by omega), hg, e1 k (by omega), e2 k (by omega)]
        exact ⟨rfl, rfl⟩
      | true =>
        have hok := fun j hj => hb1 rfl j (Nat.zero_le j) hj
        refine ⟨!(l1.any (hit a)), true, fun k hk => ?_⟩
        have e3 := boFree_l0 (l1 := l1) (by omega) hl.2 hp hs hok l1 k 0 (by simp) ho (by omega)
        have e3' : spec_boFree.l0 k a l1 (l1.length : Int) 0 = some (!(l1.any (hit a))) := e3
        unfold spec_IsAllowed.f impl_IsAllowed.f spec_boFree.f
        rw [boGood (by omega) (by omega) (by omega), areBolts (by omega) (by omega), hg, e1 k (by omega), e2 k (by omega), allowed hl.2 hp hs hok ho, e3']
        exact ⟨rfl, rfl⟩
    · refine ⟨false, false, fun k hk => ?_⟩
      unfold spec_IsAllowed.f impl_IsAllowed.f spec_boIs.f impl_Bolts_isState.f
      rw [boGood (by omega) (by omega) (by omega), areBolts (by omega) (by omega), hg, if_neg hs, if_neg hs]
      exact ⟨rfl, rfl⟩
theorem FnExactIsAllowed (l0 : List Int) (l1 : List S91) (a : ByteArray) (h0 : l0.length ≤ maxLen) (h1 : l1.length ≤ maxLen) : ∃ k, laws_FnExactIsAllowed.f k l0 l1 a = some true := by
  obtain ⟨t, ht, hc⟩ := szBolts l0 l1 h0 h1
  refine ⟨l0.length + l1.length + 100, ?_⟩
  unfold laws_FnExactIsAllowed.f
  by_cases ha : (a.size : Int) > 1048576
  · rw [if_pos ha]
  rw [if_neg ha, ht]
  simp only [Option.bind_some]
  rcases hc with hc | ⟨hc, hl⟩
  · rw [if_pos hc]
  · obtain ⟨r, b, H⟩ := isAllowed l0 (l1.map cv) a (by omega) (by rw [List.length_map]; omega)
    rw [List.length_map] at H
    obtain ⟨k, hk⟩ : ∃ k, l0.length + l1.length + 100 = k + 1 := ⟨l0.length + l1.length + 99, by omega⟩
    rw [if_neg (by omega), toBolts (by omega) (by omega) (by omega)]
    simp only [Option.bind_some]
    rw [(H _ (by omega)).1, (H _ (by omega)).2, hk]
    simp only [Option.bind_some, bne_self_eq_false, Bool.false_eq_true, if_false, laws_FnExactIsAllowed.j0]
    rw [toBolts (by omega) (by omega) (by omega)]
    simp only [Option.bind_some]
    rw [eqBolts (by omega) (by rw [List.length_map]; omega) (by rw [List.length_map]; omega)]
    simp

end Go.Proofs.Ytclomifkpciefaa.Pure
