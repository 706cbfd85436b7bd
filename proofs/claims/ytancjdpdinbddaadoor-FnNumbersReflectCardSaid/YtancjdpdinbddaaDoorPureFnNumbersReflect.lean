/- The law FnNumbersReflect, told over plain functions, holds for all bytes; no condition beyond the kinds of the numbers and the sizes that any argument has. -/
import Derived.Test.YtancjdpdinbddaaDoorAx1
import Derived.Test.YtancjdpdinbddaaDoorAx2
import Derived.Test.YtancjdpdinbddaaDoorAx3
import Derived.Test.YtancjdpdinbddaaDoorAx6
import Derived.Test.YtancjdpdinbddaaDoorDraw
set_option linter.unusedVariables false
set_option linter.unusedSimpArgs false
namespace Go.Proofs.YtancjdpdinbddaaDoor.Pure
open Go.RowKit Go.Proofs.YtancjdpdinbddaaDoor.A Go.Proofs.YtancjdpdinbddaaDoorW.PrintWords Go.Proofs.YtancjdpdinbddaaDoorW.PrintLast Go.Proofs.YtancjdpdinbddaaDoorW.PrintMore

theorem tail_ok {s : ByteArray} {r : Int} {b : Bool} {k : Nat} (hk : 60 ≤ k) (H : RK s r b) :
    (if b = true then ((impl_ReflectedText.f k r (s.size : Int)).bind fun bt => (if bt.2 = true then (some (bt.1.toList == s.toList)) else (some true))) else (some true)) = some true := by
  rcases H with ⟨bs, rfl, h1, h2, rfl, rfl⟩ | rfl
  · rw [if_pos rfl]
    obtain ⟨t, c, ht, hf⟩ := text_all (M.num bs.reverse : Int) ((sb bs).size : Int)
    rw [(hf k hk).1]
    simp only [Option.bind_some]
    rcases ht with ⟨n, q, h3, h4, h5, h6, h7, h8, rfl, rfl⟩ | rfl
    · rw [if_pos rfl]
      have e1 : n = M.num bs.reverse := by omega
      have e2 : q = bs.length := by rw [sb_size] at h4; omega
      subst e1; subst e2
      have e3 := M.st_num bs.reverse
      rw [List.length_reverse] at e3
      rw [e3, List.reverse_reverse]
      simp
    · rw [if_neg (by decide)]
  · rw [if_neg (by decide)]
theorem j9_ok {s : ByteArray} {r : Int} {b : Bool} {k : Nat} (hk : 60 ≤ k) (H : RK s r b) : laws_FnNumbersReflect.j9 (k + 1) s r b false = some true := by
  rw [laws_FnNumbersReflect.j9, if_neg (by decide)]
  exact tail_ok hk H
theorem j8_ok {a6 a7 : Int} {s t : ByteArray} {c : Bool} {r : Int} {b : Bool} {k : Nat} (hk : 400 ≤ k) (HT : TX a6 a7 t c) (H : RK s r b) : laws_FnNumbersReflect.j8 (k + 1) a6 a7 t c s r b = some true := by
  rw [laws_FnNumbersReflect.j8]
  rcases HT with ⟨n, q, rfl, rfl, h3, h4, h5, h6, rfl, rfl⟩ | rfl
  · rw [if_pos rfl]
    have hl : (M.st q n).reverse.length = q := by rw [List.length_reverse, M.st_length]
    rw [rank_sb (by omega) (by omega) (by omega)]
    simp only [Option.bind_some]
    rw [sb_size, hl, if_pos rfl, if_pos trivial, List.reverse_reverse, M.num_st h6]
    obtain ⟨k, rfl⟩ : ∃ m, k = m + 1 := ⟨k - 1, by omega⟩
    have e : ((n : Int) != (n : Int)) = false := by simp
    rw [e]
    exact j9_ok (by omega) H
  · rw [if_neg (by decide)]
    exact tail_ok (by omega) H
theorem l0_ok {a b e : Nat} {a6 a7 : Int} {s t : ByteArray} {c : Bool} {r : Int} {bb : Bool} (hb : b ≤ 1000000000000) (he : e ≤ 50) (HT : TX a6 a7 t c) (H : RK s r bb) (d : Nat) : ∀ (k i : Nat), i + d = b → a ≤ i → d + 500 < k →
    laws_FnNumbersReflect.l0 k (b : Int) (e : Int) ((M.cnt e b : Int) - (M.cnt e a : Int)) a6 a7 t c s r bb ((M.cnt e i : Int) - (M.cnt e a : Int)) (i : Int) = some true := by
  induction d with
  | zero =>
    intro k i hi ha hk
    obtain ⟨k, rfl⟩ : ∃ m, k = m + 1 := ⟨k - 1, by omega⟩
    obtain rfl : i = b := by omega
    rw [laws_FnNumbersReflect.l0, if_neg (by omega), if_pos rfl]
    obtain ⟨k, rfl⟩ : ∃ m, k = m + 1 := ⟨k - 1, by omega⟩
    exact j8_ok (by omega) HT H
  | succ d ih =>
    intro k i hi ha hk
    obtain ⟨k, rfl⟩ : ∃ m, k = m + 1 := ⟨k - 1, by omega⟩
    have h1 := M.cnt_le_self e i
    have h2 := M.cnt_le_self e a
    have h3 := M.cnt_succ e i
    rw [laws_FnNumbersReflect.l0, if_pos (by omega), (chg_yes (by omega) (by omega)).1]
    simp only [Option.bind_some, if_true]
    rw [w64 (x := (i : Int) + 1) (by omega) (by omega), show (i : Int) + 1 = ((i + 1 : Nat) : Int) by omega]
    by_cases q : M.ctz (i + 1) = e
    · rw [if_pos (by omega), w64 (by omega) (by omega)]
      rw [if_pos q] at h3
      have := ih k (i + 1) (by omega) (by omega) (by omega)
      rwa [h3, show (((M.cnt e i + 1 : Nat) : Int) - (M.cnt e a : Int)) = (M.cnt e i : Int) - (M.cnt e a : Int) + 1 by omega] at this
    · rw [if_neg (by omega)]
      rw [if_neg q] at h3
      have := ih k (i + 1) (by omega) (by omega) (by omega)
      rwa [h3, Nat.add_zero] at this
theorem cnt_mono_le (e : Nat) {a b : Nat} (h : a ≤ b) : M.cnt e b - M.cnt e a ≤ b - a := by
  obtain ⟨d, rfl⟩ : ∃ d, b = a + d := ⟨b - a, by omega⟩
  clear h
  induction d with
  | zero => rw [Nat.add_zero]; omega
  | succ d ih =>
    have h1 := M.cnt_succ e (a + d)
    rw [← Nat.add_assoc, h1]
    split <;> omega
theorem j5_ok {a3 a4 a5 a6 a7 : Int} {s t : ByteArray} {tm : Int} {tb c : Bool} {r : Int} {b : Bool} {k : Nat} (hk : 1000 ≤ k) (HM : TM a3 a4 a5 tm tb) (HT : TX a6 a7 t c) (H : RK s r b) : laws_FnNumbersReflect.j5 (k + 1) a3 a4 a5 tm tb a6 a7 t c s r b = some true := by
  rw [laws_FnNumbersReflect.j5]
  obtain ⟨k, rfl⟩ : ∃ m, k = m + 1 := ⟨k - 1, by omega⟩
  rcases HM with ⟨x, y, e, rfl, rfl, rfl, h1, h2, h3, rfl, rfl⟩ | rfl
  · rw [if_pos rfl]
    have g1 := M.cnt_le e h1
    have g2 := cnt_mono_le e h1
    have g3 := M.cnt_le_self e y
    rw [if_neg (by omega), w64 (by omega) (by omega), decide_eq_false (by omega), laws_FnNumbersReflect.j6, if_neg (by decide), w64 (by omega) (by omega)]
    by_cases q : (y : Int) - (x : Int) ≤ 64
    · rw [if_pos q]
      have := l0_ok (a := x) (b := y) (e := e) h2 h3 HT H (y - x) k x (by omega) (by omega) (by omega)
      rwa [Int.sub_self] at this
    · rw [if_neg q]
      obtain ⟨k, rfl⟩ : ∃ m, k = m + 1 := ⟨k - 1, by omega⟩
      exact j8_ok (by omega) HT H
  · rw [if_neg (by decide)]
    exact j8_ok (by omega) HT H
/-- the plain sum: what both functions say -/
def PS (a b r : Int) (c : Bool) : Prop := (∃ x y : Nat, a = x ∧ b = y ∧ x ≤ 1000000000000 ∧ y ≤ 1000000000000 ∧ r = ((x ^^^ y : Nat) : Int) ∧ c = true) ∨ c = false
theorem plain_all (a b : Int) : ∃ r c, PS a b r c ∧ impl_PlainSum.f a b = some (r, c) ∧ spec_PlainSum.f a b = some (r, c) := by
  by_cases h : (0 ≤ a ∧ a ≤ 1000000000000) ∧ (0 ≤ b ∧ b ≤ 1000000000000)
  · obtain ⟨h1, h2⟩ := h
    obtain ⟨x, rfl⟩ := Int.eq_ofNat_of_zero_le h1.1
    obtain ⟨y, rfl⟩ := Int.eq_ofNat_of_zero_le h2.1
    exact ⟨_, true, .inl ⟨x, y, rfl, rfl, by omega, by omega, rfl, rfl⟩, plain_yes (by omega) (by omega), (plain_same _ _).trans (plain_yes (by omega) (by omega))⟩
  · exact ⟨0, false, .inr rfl, plain_no h, (plain_same _ _).trans (plain_no h)⟩
theorem j4_ok {a1 a2 a3 a4 a5 a6 a7 ps : Int} {s t : ByteArray} {tm : Int} {pb tb c : Bool} {r : Int} {b : Bool} {k : Nat} (hk : 1000 ≤ k) (HP : PS a1 a2 ps pb) (HM : TM a3 a4 a5 tm tb) (HT : TX a6 a7 t c) (H : RK s r b) : laws_FnNumbersReflect.j4 (k + 2) a1 a2 ps pb a3 a4 a5 tm tb a6 a7 t c s r b false = some true := by
  rw [laws_FnNumbersReflect.j4, if_neg (by decide)]
  rcases HP with ⟨x, y, rfl, rfl, h1, h2, rfl, rfl⟩ | rfl
  · rw [if_pos rfl, plain_yes h2 h1]
    simp only [Option.bind_some, if_true]
    have hc : ((y ^^^ x : Nat) : Int) = ((x ^^^ y : Nat) : Int) := by rw [Nat.xor_comm]
    by_cases q : x ^^^ y ≤ 1000000000000
    · rw [plain_yes q h2]
      simp only [Option.bind_some, if_true]
      rw [if_pos hc, if_pos (by rw [Nat.xor_assoc, Nat.xor_self, Nat.xor_zero])]
      exact j5_ok hk HM HT H
    · rw [plain_no (fun h => q (by omega))]
      simp only [Option.bind_some, Bool.false_eq_true, if_false]
      rw [if_pos hc]
      exact j5_ok hk HM HT H
  · rw [if_neg (by decide)]
    exact j5_ok hk HM HT H
theorem j3_ok {l1 : List Int} (h1 : RD l1 0) {k : Nat} (hk : 1000 ≤ k) : laws_FnNumbersReflect.j3 (k + 3) l1 = some true := by
  obtain ⟨a1, a2, q1⟩ := dPlain h1
  obtain ⟨a3, a4, a5, q2⟩ := dTimes h1
  obtain ⟨a6, a7, q3⟩ := dRefText h1
  obtain ⟨s, hs, q4⟩ := dRank h1
  obtain ⟨ps, pb, HP, p1, p2⟩ := plain_all a1 a2
  obtain ⟨tm, tb, HM, hm⟩ := times_all a3 a4 a5
  obtain ⟨t, c, HT, ht⟩ := text_all a6 a7
  obtain ⟨r, b, H, _, hr⟩ := rank_all s hs
  have m1 := hm (k + 1)
  have t1 := ht (k + 2) (by omega)
  have r1 := hr (k + 2) (by omega)
  rw [laws_FnNumbersReflect.j3, q1 (k + 2) (by omega), Option.bind_some]
  simp only
  rw [p1, p2, q2 (k + 2) (by omega)]
  simp only [Option.bind_some]
  rw [m1.1, m1.2, q3 (k + 2) (by omega)]
  simp only [Option.bind_some]
  rw [t1.1, t1.2, q4 (k + 2) (by omega)]
  simp only [Option.bind_some]
  rw [r1.1, r1.2]
  simp only [Option.bind_some, bne_self_eq_false, Bool.false_eq_true, if_false, if_true]
  exact j4_ok hk HP HM HT H
theorem j1_ok {n : Nat} (hn : n ≤ 1000000000000) {l1 : List Int} (h1 : RD l1 0) {k : Nat} (hk : 1000 ≤ k) : laws_FnNumbersReflect.j1 (k + 5) l1 (n : Int) (M.gray n : Int) (M.ctz (n + 1) : Int) false = some true := by
  have hj2 : laws_FnNumbersReflect.j2 (k + 4) l1 (n : Int) false = some true := by
    have hl : (M.st 40 n).reverse.length = 40 := by rw [List.length_reverse, M.st_length]
    have tx := (text_yes (r := 40) (k := k + 3) hn (by decide) (by decide) (by omega) (by omega)).1
    rw [show ((40 : Nat) : Int) = 40 from rfl] at tx
    rw [laws_FnNumbersReflect.j2, if_neg (by decide), tx]
    simp only [Option.bind_some, if_true]
    rw [rank_sb (by omega) (by omega) (by omega)]
    simp only [Option.bind_some, if_true]
    rw [List.reverse_reverse, M.num_st (by omega), if_pos rfl, sb_size, hl, if_pos (show ((40 : Nat) : Int) = 40 from rfl)]
    exact j3_ok h1 hk
  rw [laws_FnNumbersReflect.j1, if_neg (by decide), w64 (by omega) (by omega), show (n : Int) + 1 = ((n + 1 : Nat) : Int) by omega]
  by_cases q : n + 1 ≤ 1000000000000
  · have g1 := M.gray_lt (r := 40) (n := n) (by omega)
    have g2 := M.gray_lt (r := 40) (n := n + 1) (by omega)
    have g3 := M.ctz_lt (r := 40) (n := n + 1) (by omega) (by omega)
    rw [(refOf_yes q).1]
    simp only [Option.bind_some, if_true]
    rw [if_pos (by omega), xor_nat (by omega) (by omega), M.gray_xor_succ (n + 1) n (by omega), shl_one (by omega), bne_self_eq_false]
    exact hj2
  · rw [(refOf_no (fun h => q (by omega))).1]
    simp only [Option.bind_some, Bool.false_eq_true, if_false]
    exact hj2
theorem bytes_ok {l : List Int} (h : ∀ x ∈ l, (Lit.int .u8 x).wf = true) : ∀ x ∈ l, 0 ≤ x ∧ x ≤ 255 := by
  intro x hx
  have := h x hx
  simpa [Lit.wf, IntKind.min, IntKind.max, IntKind.bits, IntKind.signed] using this
theorem big_val (l0 l1 : List Int) (h0 : l0.length ≤ 140737488351232) (h1 : l1.length ≤ 140737488351232) : ∃ t, laws_big.f l0 l1 = some t ∧ (t = false → l0.length ≤ 1048576 ∧ l1.length ≤ 1048576) := by
  unfold laws_big.f
  by_cases q : (l0.length : Int) > 1048576
  · rw [if_pos q]; exact ⟨true, rfl, fun h => by cases h⟩
  · rw [if_neg q, w64 (by omega) (by omega)]
    refine ⟨_, rfl, fun h => ?_⟩
    have := of_decide_eq_false h
    omega
theorem all_ok {l0 l1 : List Int} (h0 : RD l0 0) (h1 : RD l1 0) {k : Nat} (hk : 1000 ≤ k) : 
    ((spec_DrawReflectedOf.f (k + 6) l0).bind fun t247 => ((impl_ReflectedOf.f t247).bind fun bt248 => ((spec_ReflectedOf.f t247).bind fun bt250 => ((impl_NumberOfReflected.f (k + 6) t247).bind fun bt252 => ((spec_NumberOfReflected.f (k + 6) t247).bind fun bt254 => ((impl_ChangedDigit.f (k + 6) t247).bind fun bt256 => ((spec_ChangedDigit.f (k + 6) t247).bind fun bt258 => (if (bt248.2 != bt250.2) = true then (laws_FnNumbersReflect.j0 (k + 6) l1 t247 bt248.1 bt248.2 bt256.1 true) else (if bt248.1 = bt250.1 then (if (bt252.2 != bt254.2) = true then (laws_FnNumbersReflect.j0 (k + 6) l1 t247 bt248.1 bt248.2 bt256.1 true) else (if bt252.1 = bt254.1 then (if (bt256.2 != bt258.2) = true then (laws_FnNumbersReflect.j0 (k + 6) l1 t247 bt248.1 bt248.2 bt256.1 true) else (if bt256.1 = bt258.1 then (if (bt252.2 != bt248.2) = true then (laws_FnNumbersReflect.j0 (k + 6) l1 t247 bt248.1 bt248.2 bt256.1 true) else (laws_FnNumbersReflect.j0 (k + 6) l1 t247 bt248.1 bt248.2 bt256.1 (bt256.2 != bt248.2))) else (laws_FnNumbersReflect.j0 (k + 6) l1 t247 bt248.1 bt248.2 bt256.1 true))) else (laws_FnNumbersReflect.j0 (k + 6) l1 t247 bt248.1 bt248.2 bt256.1 true))) else (laws_FnNumbersReflect.j0 (k + 6) l1 t247 bt248.1 bt248.2 bt256.1 true)))))))))) = some true := by
  obtain ⟨a0, q0⟩ := dRefOf h0
  rw [q0 (k + 6) (by omega), Option.bind_some]
  by_cases h : 0 ≤ a0 ∧ a0 ≤ 1000000000000
  · obtain ⟨n, rfl⟩ := Int.eq_ofNat_of_zero_le h.1
    have hn : n ≤ 1000000000000 := by omega
    have r1 := refOf_yes hn
    have r2 := numOf_yes (k := k + 6) hn (by omega)
    have r3 := chg_yes (k := k + 6) hn (by omega)
    rw [r1.1, r1.2, r2.1, r2.2, r3.1, r3.2]
    simp only [Option.bind_some, bne_self_eq_false, Bool.false_eq_true, if_false, if_true]
    rw [laws_FnNumbersReflect.j0, if_neg (by decide), if_pos rfl]
    have e1 : wrap64 (Int.tdiv (n : Int) 2) = ((n / 2 : Nat) : Int) := by rw [tdiv2 (by omega) (by omega)]; omega
    rw [e1, plain_yes hn (by omega), show n ^^^ n / 2 = M.gray n from rfl]
    simp only [Option.bind_some, bne_self_eq_false, if_true]
    have hj := j1_ok hn h1 (k := k) hk
    by_cases q : M.gray n ≤ 1000000000000
    · rw [(numOf_yes q (by omega)).1]
      simp only [Option.bind_some, if_true]
      rw [M.inv_gray, if_pos rfl]
      exact hj
    · rw [(numOf_no (fun h => q (by omega))).1, Option.bind_some, if_neg (show ¬ (((0 : Int), false).2 = true) from fun h => Bool.false_ne_true h)]
      exact hj
  · have r1 := refOf_no h
    have r2 := numOf_no (k := k + 6) h
    have r3 := chg_no (k := k + 6) h
    rw [r1.1, r1.2, r2.1, r2.2, r3.1, r3.2]
    simp only [Option.bind_some, bne_self_eq_false, Bool.false_eq_true, if_false, if_true]
    rw [laws_FnNumbersReflect.j0, if_neg (by decide), if_neg (by decide)]
    exact j3_ok h1 (k := k + 2) (by omega)
theorem FnNumbersReflect : laws_FnNumbersReflect.Pure := by
  intro l0 l1 _ s0 b0 _ s1 b1
  obtain ⟨t, ht, hb⟩ := big_val l0 l1 (by omega) (by omega)
  refine ⟨1000 + 6, ?_⟩
  unfold laws_FnNumbersReflect.f
  rw [ht, Option.bind_some]
  cases t with
  | true => rw [if_pos rfl]
  | false =>
    have := hb rfl
    rw [if_neg (by decide)]
    exact all_ok (RD.start (bytes_ok b0) this.1) (RD.start (bytes_ok b1) this.2) (Nat.le_refl _)

end Go.Proofs.YtancjdpdinbddaaDoor.Pure
