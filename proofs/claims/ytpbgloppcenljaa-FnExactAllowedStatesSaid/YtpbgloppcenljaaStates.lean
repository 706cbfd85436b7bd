/- What the printed functions of all states of bolts give. -/
import Derived.Test.YtpbgloppcenljaaAx0
import Derived.Test.YtpbgloppcenljaaAx1
import Derived.Test.YtpbgloppcenljaaAx3
import Derived.Test.YtpbgloppcenljaaAx4
import Derived.Test.YtpbgloppcenljaaAx6
import Derived.Test.YtpbgloppcenljaaAx7
import Derived.Test.YtpbgloppcenljaaBolts
set_option linter.unusedVariables false
set_option linter.unusedSimpArgs false
namespace Go.Proofs.Ytpbgloppcenljaa.Pure
open Go.RowKit Go.Proofs.Ytpbgloppcenljaa.A Go.Proofs.YtpbgloppcenljaaW.PrintWords Go.Proofs.YtpbgloppcenljaaW.PrintLast Go.Proofs.YtpbgloppcenljaaW.PrintMore

/-! the states of bolts: one behind the other, and by number -/
theorem rdOf_nat {l : List ByteArray} {i : Nat} {x : ByteArray} (h : l[i]? = some x) : rdOf ByteArray.empty l (i : Int) = x := by
  unfold rdOf; rw [Int.toNat_natCast, List.getD, h]; rfl
def dg (x : Int) : Int := (48 + x) % 256
theorem strOfNums_app (a b : List Int) : strOfNums (a ++ b) = strOfNums a ++ strOfNums b := by
  unfold strOfNums
  apply ByteArray.ext
  simp [ByteArray.data_append]
theorem strOfNums_size (a : List Int) : (strOfNums a).size = a.length := by unfold strOfNums; simp [ByteArray.size]
theorem l1Num_dg {x : Int} {k : Nat} (h : 0 ≤ x ∧ x < 10) (hk : 0 < k) : spec_l1Num.f k x = some (strOfNums [dg x]) := by
  obtain ⟨k, rfl⟩ : ∃ m, k = m + 1 := ⟨k - 1, by omega⟩
  rw [spec_l1Num.f, if_pos h.2, w64 (by omega) (by omega)]; rfl
def tT (ds : List Int) : ByteArray := strOfNums (ds.map dg)
theorem tT_snoc (s : List Int) (x : Int) : tT (s ++ [x]) = tT s ++ strOfNums [dg x] := by unfold tT; rw [List.map_append, strOfNums_app]; rfl
theorem tT_cons (x : Int) (s : List Int) : tT (x :: s) = strOfNums [dg x] ++ tT s := by unfold tT; rw [List.map_cons, show (dg x :: s.map dg) = [dg x] ++ s.map dg from rfl, strOfNums_app]
theorem tT_size (s : List Int) : (tT s).size = s.length := by unfold tT; rw [strOfNums_size, List.length_map]
def extL (p : Nat) (s : List Int) : List (List Int) := (List.range p).map fun j => s ++ [((j : Nat) : Int)]
theorem extL_length (p : Nat) (s : List Int) : (extL p s).length = p := by unfold extL; rw [List.length_map, List.length_range]
def stL (l : List Int) : Nat → List (List Int)
  | 0 => [[]]
  | i + 1 => (stL l i).flatMap (extL (rd l (i : Int)).toNat)
theorem flat_len (p : Nat) : ∀ L : List (List Int), (L.flatMap (extL p)).length = L.length * p
  | [] => by simp
  | s :: L => by rw [List.flatMap_cons, List.length_append, flat_len p L, extL_length, List.length_cons, Nat.succ_mul, Nat.add_comm]
theorem rd_five {l : List Int} (hp : ∀ x ∈ l, 2 ≤ x ∧ x ≤ 5) {i : Nat} (h : i < l.length) : ∃ p : Nat, rd l (i : Int) = (p : Int) ∧ 2 ≤ p ∧ p ≤ 5 := by
  have := hp _ (rd_mem (l := l) (i := (i : Int)) ⟨by omega, by omega⟩)
  exact ⟨(rd l (i : Int)).toNat, by omega, by omega, by omega⟩
theorem stL_len {l : List Int} (hp : ∀ x ∈ l, 2 ≤ x ∧ x ≤ 5) : ∀ i, i ≤ l.length → (stL l i).length ≤ 5 ^ i
  | 0, _ => by simp [stL]
  | i + 1, h => by
    obtain ⟨p, e, _, h5⟩ := rd_five hp (i := i) (by omega)
    have ih := stL_len hp i (by omega)
    rw [stL, flat_len, e, Int.toNat_natCast, Nat.pow_succ]
    exact Nat.mul_le_mul ih h5
theorem stL_mem {l : List Int} (hp : ∀ x ∈ l, 2 ≤ x ∧ x ≤ 5) : ∀ i, i ≤ l.length → ∀ s ∈ stL l i, s.length = i ∧ ∀ j, j < i → 0 ≤ s.getD j 0 ∧ s.getD j 0 < rd l (j : Int)
  | 0, _ => fun s hs => by
    rw [stL, List.mem_singleton] at hs
    subst hs
    exact ⟨rfl, fun j h => absurd h (Nat.not_lt_zero _)⟩
  | i + 1, h => fun s hs => by
    rw [stL, List.mem_flatMap] at hs
    obtain ⟨s0, h0, h1⟩ := hs
    obtain ⟨p, e, _, _⟩ := rd_five hp (i := i) (by omega)
    rw [e, Int.toNat_natCast] at h1
    unfold extL at h1
    rw [List.mem_map] at h1
    obtain ⟨q, hq, rfl⟩ := h1
    rw [List.mem_range] at hq
    obtain ⟨g1, g2⟩ := stL_mem hp i (by omega) s0 h0
    refine ⟨by rw [List.length_append, g1]; rfl, fun j hj => ?_⟩
    by_cases c : j = i
    · subst c
      have e3 : (s0 ++ [(q : Int)]).getD j 0 = (q : Int) := by
        rw [List.getD, List.getElem?_append_right (by omega), g1, Nat.sub_self]; rfl
      rw [e3, e]
      omega
    · have e3 : (s0 ++ [(q : Int)]).getD j 0 = s0.getD j 0 := by
        rw [List.getD, List.getD, List.getElem?_append_left (by omega)]
      rw [e3]
      exact g2 j (by omega)
theorem l2_run {p : Nat} (hp : p ≤ 5) {s : List Int} (hs : s.length ≤ 6) {y12 : List Int} {y13 y14 : Int} {y18 : List ByteArray} {y19 y20 : Int} {B : Nat} {R : List ByteArray} (d : Nat) : ∀ (i : Nat) (x6 : List ByteArray), i + d = p → x6.length + d ≤ 1000000 →
    (∀ k, B < k → impl_Bolts_states_c.l1 k (p : Int) (x6 ++ (List.range' i d).map fun j => tT (s ++ [((j : Nat) : Int)])) y12 y13 y14 y18 y19 (wrap64 (y20 + 1)) = some R) →
    ∀ k, B + d + 1 < k → impl_Bolts_states_c.l2 k (p : Int) x6 (tT s) y12 y13 y14 y18 y19 y20 (p : Int) (i : Int) = some R := by
  induction d with
  | zero =>
    intro i x6 hi _ H k hk
    obtain ⟨k, rfl⟩ : ∃ m, k = m + 1 := ⟨k - 1, by omega⟩
    rw [impl_Bolts_states_c.l2, if_neg (by omega)]
    have := H k (by omega)
    simpa using this
  | succ d ih =>
    intro i x6 hi hx H k hk
    obtain ⟨k, rfl⟩ : ∃ m, k = m + 1 := ⟨k - 1, by omega⟩
    have e : (48 + ((i : Int) % 256)) % 256 = dg (i : Int) := by unfold dg; omega
    rw [impl_Bolts_states_c.l2, if_pos (by omega), e]
    simp only [Option.bind_some]
    rw [if_pos (by rw [tT_size, strOfNums_size]; simp; omega), if_pos (by omega), ← tT_snoc, w64 (x := (i : Int) + 1) (by omega) (by omega), show ((i : Int) + 1) = ((i + 1 : Nat) : Int) by omega]
    refine ih (i + 1) (x6 ++ [tT (s ++ [(i : Int)])]) (by omega) (by rw [List.length_append]; simp; omega) (fun k hk => ?_) k (by omega)
    have := H k hk
    rw [List.range'_succ, List.map_cons] at this
    rw [List.append_assoc]
    exact this
theorem ext_T (p : Nat) (s : List Int) : (extL p s).map tT = (List.range' 0 p).map fun j => tT (s ++ [((j : Nat) : Int)]) := by
  unfold extL
  rw [List.map_map, List.range_eq_range']
  rfl
theorem l1_run {p : Nat} (hp : p ≤ 5) {L : List (List Int)} (hL : ∀ s ∈ L, s.length ≤ 6) (hLl : L.length ≤ 1000000) {y12 : List Int} {y13 y14 : Int} {B : Nat} {R : List ByteArray} (r : List (List Int)) : ∀ (i : Nat) (x6 : List ByteArray), L.drop i = r → x6.length + r.length * p ≤ 1000000 →
    (∀ k, B < k → impl_Bolts_states_c.l0 k (x6 ++ r.flatMap fun s => (extL p s).map tT) y12 y13 (wrap64 (y14 + 1)) = some R) →
    ∀ k, B + r.length * 8 + 1 < k → impl_Bolts_states_c.l1 k (p : Int) x6 y12 y13 y14 (L.map tT) ((L.map tT).length : Int) (i : Int) = some R := by
  induction r with
  | nil =>
    intro i x6 hd _ H k hk
    obtain ⟨k, rfl⟩ : ∃ m, k = m + 1 := ⟨k - 1, by omega⟩
    have : L.length ≤ i := List.drop_eq_nil_iff.1 hd
    rw [impl_Bolts_states_c.l1, if_neg (by rw [List.length_map]; omega)]
    have := H k (by simpa using hk)
    simpa using this
  | cons s r ih =>
    intro i x6 hd hx H k hk
    rw [List.length_cons] at hk hx
    obtain ⟨k, rfl⟩ : ∃ m, k = m + 1 := ⟨k - 1, by omega⟩
    obtain ⟨h2, h3, h4⟩ := getElem?_drop_cons hd
    have hsm : s ∈ L := List.mem_of_getElem? h2
    have h2' : (L.map tT)[i]? = some (tT s) := by rw [List.getElem?_map, h2]; rfl
    rw [Nat.succ_mul] at hx
    rw [impl_Bolts_states_c.l1, if_pos (by rw [List.length_map]; omega), if_pos (by omega), if_pos (by rw [List.length_map]; omega), rdOf_nat h2']
    refine l2_run hp (hL s hsm) (B := B + r.length * 8 + 1) p 0 x6 (by omega) (by omega) (fun k hk => ?_) k (by omega)
    have ew : Aside0 (wrap64 ((i : Int) + 1) = ((i + 1 : Nat) : Int)) := ⟨by rw [w64 (by omega) (by omega)]; omega⟩
    rw [← ext_T, ew.out]
    refine ih (i + 1) _ h3 (by rw [List.length_append, List.length_map, extL_length]; omega) (fun k hk => ?_) k hk
    have := H k hk
    rw [List.flatMap_cons] at this
    rw [List.append_assoc]
    exact this
theorem l0_run {l : List Int} (hl : l.length ≤ 6) (hp : ∀ x ∈ l, 2 ≤ x ∧ x ≤ 5) (d : Nat) : ∀ i : Nat, i + d = l.length → ∀ K : Nat, K = d * 200000 + 1 → ∀ k, K < k → impl_Bolts_states_c.l0 k ((stL l i).map tT) l (l.length : Int) (i : Int) = some ((stL l l.length).map tT) := by
  induction d with
  | zero =>
    intro i hi K hK k hk
    obtain ⟨k, rfl⟩ : ∃ m, k = m + 1 := ⟨k - 1, by omega⟩
    obtain rfl : i = l.length := by omega
    rw [impl_Bolts_states_c.l0, if_neg (by omega)]
  | succ d ih =>
    intro i hi K hK k hk
    obtain ⟨k, rfl⟩ : ∃ m, k = m + 1 := ⟨k - 1, by omega⟩
    obtain ⟨p, e, h2, h5⟩ := rd_five hp (i := i) (by omega)
    have hlen := stL_len hp i (by omega)
    have h5i : 5 ^ i ≤ 5 ^ 5 := Nat.pow_le_pow_right (by omega) (by omega)
    have h55 : (5 : Nat) ^ 5 = 3125 := rfl
    rw [impl_Bolts_states_c.l0, if_pos (by omega), if_pos (by omega), if_pos (by omega), e]
    have hmul : (stL l i).length * p ≤ 15625 := Nat.le_trans (Nat.mul_le_mul (show (stL l i).length ≤ 3125 by omega) h5) (by decide)
    obtain ⟨K0, hK0⟩ : ∃ K0, K0 = d * 200000 + 1 := ⟨_, rfl⟩
    have hk2 : K0 + (stL l i).length * 8 + 1 < k := by omega
    refine l1_run h5 (L := stL l i) (fun s hs => by rw [(stL_mem hp i (by omega) s hs).1]; omega) (by omega) (B := K0) (stL l i) 0 [] (by simp) (by simp; omega) (fun k hk => ?_) k hk2
    have ew : Aside0 (wrap64 ((i : Int) + 1) = ((i + 1 : Nat) : Int)) := ⟨by rw [w64 (by omega) (by omega)]; omega⟩
    have := ih (i + 1) (by omega) K0 hK0 k hk
    rw [stL, e, Int.toNat_natCast, List.map_flatMap] at this
    rw [ew.out, List.nil_append]
    exact this
theorem states_c {l : List Int} {l1 : List S56} (hl : l.length ≤ 6) (hp : ∀ x ∈ l, 2 ≤ x ∧ x ≤ 5) {k : Nat} (hk : 1300000 < k) : impl_Bolts_states_c.f k l l1 = some ((stL l l.length).map tT) := by
  unfold impl_Bolts_states_c.f
  exact l0_run hl hp l.length 0 (by omega) _ rfl k (by have := Nat.mul_le_mul_right 200000 hl; omega)
/-! by number -/
def dgN (l : List Int) : Nat → Nat → List Int
  | 0, _ => []
  | i + 1, n => dgN l i (n / (rd l (i : Int)).toNat) ++ [((n % (rd l (i : Int)).toNat : Nat) : Int)]
def prN (l : List Int) : Nat → Nat
  | 0 => 1
  | i + 1 => prN l i * (rd l (i : Int)).toNat
theorem range_mul {α : Type} (f : Nat → α) (p : Nat) : ∀ a, (List.range (a * p)).map f = (List.range a).flatMap fun q => (List.range p).map fun r => f (q * p + r)
  | 0 => by simp
  | a + 1 => by
    rw [Nat.succ_mul, List.range_add, List.map_append, range_mul f p a, List.range_succ, List.flatMap_append, List.flatMap_singleton, List.map_map]
    rfl
theorem stL_num {l : List Int} (hp : ∀ x ∈ l, 2 ≤ x ∧ x ≤ 5) : ∀ i, i ≤ l.length → stL l i = (List.range (prN l i)).map (dgN l i)
  | 0, _ => by simp [stL, prN, dgN]
  | i + 1, h => by
    obtain ⟨p, e, h2, _⟩ := rd_five hp (i := i) (by omega)
    rw [stL, prN, e, Int.toNat_natCast, range_mul, stL_num hp i (by omega), List.flatMap_map]
    congr 1
    funext q
    unfold extL
    apply List.map_congr_left
    intro r hr
    rw [List.mem_range] at hr
    rw [dgN, e, Int.toNat_natCast]
    have h1 : (q * p + r) / p = q := by rw [Nat.mul_comm, Nat.mul_add_div (by omega), Nat.div_eq_of_lt hr, Nat.add_zero]
    have h3 : (q * p + r) % p = r := by rw [Nat.mul_comm, Nat.mul_add_mod, Nat.mod_eq_of_lt hr]
    rw [h1, h3]
theorem boState_l0 {l : List Int} {l1 : List S56} (hl : l.length ≤ 6) (hp : ∀ x ∈ l, 2 ≤ x ∧ x ≤ 5) (i : Nat) : ∀ (n : Nat) (suf : List Int), i ≤ l.length → n ≤ 1000000 → suf.length + i ≤ 10 → ∀ k, i + 1 < k → spec_boState.l0 k (n : Int) (tT suf) ((i : Int) - 1) l l1 = some (tT (dgN l i n ++ suf)) := by
  induction i with
  | zero =>
    intro n suf _ _ _ k hk
    obtain ⟨k, rfl⟩ : ∃ m, k = m + 1 := ⟨k - 1, by omega⟩
    rw [spec_boState.l0, if_neg (by omega)]
    rfl
  | succ i ih =>
    intro n suf hi hn hs k hk
    obtain ⟨k, rfl⟩ : ∃ m, k = m + 1 := ⟨k - 1, by omega⟩
    obtain ⟨p, e, h2, h5⟩ := rd_five hp (i := i) (by omega)
    have e1 : (((i + 1 : Nat) : Int) - 1) = (i : Int) := by omega
    have et : Int.tmod (n : Int) (p : Int) = ((n % p : Nat) : Int) := by rw [Int.tmod_eq_emod_of_nonneg (by omega)]; rfl
    have ed : Int.tdiv (n : Int) (p : Int) = ((n / p : Nat) : Int) := by rw [Int.tdiv_eq_ediv_of_nonneg (by omega)]; rfl
    have hm : n % p < p := Nat.mod_lt _ (by omega)
    have hd : n / p ≤ n := Nat.div_le_self _ _
    have hdg : dgN l (i + 1) n = dgN l i (n / p) ++ [((n % p : Nat) : Int)] := by rw [dgN, e, Int.toNat_natCast]
    rw [hdg, List.append_assoc]
    generalize n / p = nq at ed hd ⊢
    generalize n % p = nr at et hm ⊢
    rw [e1, spec_boState.l0, if_pos (by omega), if_pos (by omega), if_pos (by omega), e, if_neg (by omega), et, ed, l1Num_dg (x := (nr : Int)) (by omega) (by omega)]
    simp only [Option.bind_some]
    rw [if_pos (by rw [tT_size, strOfNums_size]; simp; omega), ← tT_cons, w64 (x := (nq : Int)) (by omega) (by omega), w64 (x := (i : Int) - 1) (by omega) (by omega)]
    rw [ih nq ((nr : Int) :: suf) (by omega) (by omega) (by rw [List.length_cons]; omega) k (by omega)]
    rfl
theorem prN_le {l : List Int} (hp : ∀ x ∈ l, 2 ≤ x ∧ x ≤ 5) : ∀ i, i ≤ l.length → prN l i ≤ 5 ^ i
  | 0, _ => by simp [prN]
  | i + 1, h => by
    obtain ⟨p, e, _, h5⟩ := rd_five hp (i := i) (by omega)
    rw [prN, e, Int.toNat_natCast, Nat.pow_succ]
    exact Nat.mul_le_mul (prN_le hp i (by omega)) h5
theorem pr_num {l : List Int} (hl : l.length ≤ 6) (hp : ∀ x ∈ l, 2 ≤ x ∧ x ≤ 5) (r : List Int) : ∀ i, l.drop i = r → i ≤ l.length → pr ((prN l i : Nat) : Int) r = ((prN l l.length : Nat) : Int) := by
  induction r with
  | nil =>
    intro i hd hi
    have : l.length ≤ i := List.drop_eq_nil_iff.1 hd
    obtain rfl : i = l.length := by omega
    rfl
  | cons y r ih =>
    intro i hd hi
    obtain ⟨h2, h3, h4⟩ := getElem?_drop_cons hd
    have hil : i < l.length := by
      by_cases c : i < l.length
      · exact c
      · rw [List.getElem?_eq_none (by omega)] at h2; cases h2
    obtain ⟨p, e, _, h5⟩ := rd_five hp (i := i) hil
    rw [rd_nat h2] at e
    have hb := prN_le hp i (by omega)
    have h5i : 5 ^ i ≤ 5 ^ 5 := Nat.pow_le_pow_right (by omega) (by omega)
    have h55 : (5 : Nat) ^ 5 = 3125 := rfl
    have hmul : prN l i * p ≤ 15625 := Nat.le_trans (Nat.mul_le_mul (show prN l i ≤ 3125 by omega) h5) (by decide)
    have em : ((prN l i : Nat) : Int) * y = ((prN l i * p : Nat) : Int) := by rw [e]; push_cast; rfl
    have en : prN l (i + 1) = prN l i * p := by rw [prN, rd_nat h2, e, Int.toNat_natCast]
    rw [pr, em, w64 (by omega) (by omega), ← en]
    exact ih (i + 1) h3 (by omega)
theorem tT_bt {s : List Int} {j : Nat} (hj : j < s.length) (h : 0 ≤ s.getD j 0 ∧ s.getD j 0 < 10) : bt (tT s) (j : Int) = 48 + s.getD j 0 := by
  have hsz : ((j : Nat) : Int).toNat < (tT s).size := by rw [tT_size, Int.toNat_natCast]; exact hj
  have e2 : s.getD j 0 = s[j] := by rw [List.getD, List.getElem?_eq_getElem hj]; rfl
  rw [e2] at h ⊢
  unfold bt
  rw [dif_pos hsz]
  have e1 : (tT s)[((j : Nat) : Int).toNat]'hsz = UInt8.ofNat (dg s[j]).toNat := by
    show (tT s).data[((j : Nat) : Int).toNat]'hsz = _
    simp [tT, strOfNums]
  rw [e1]
  unfold dg
  have : ((48 + s[j]) % 256).toNat = (48 + s[j]).toNat := by omega
  rw [this, UInt8.toNat_ofNat']
  omega

/-! all allowed states, told both ways -/
def frB (l1 : List S56) (a : ByteArray) : Bool := !(l1.any (hit a))
theorem st_ok {l : List Int} (hp : ∀ x ∈ l, 2 ≤ x ∧ x ≤ 5) {s : List Int} (hs : s ∈ stL l l.length) : ((tT s).size : Int) = (l.length : Int) ∧ ∀ j, j < l.length → okp l (tT s) j := by
  obtain ⟨h1, h2⟩ := stL_mem hp l.length (Nat.le_refl _) s hs
  refine ⟨by rw [tT_size, h1], fun j hj => ?_⟩
  obtain ⟨p, e, _, h5⟩ := rd_five hp (i := j) hj
  have hb := h2 j hj
  unfold okp
  rw [tT_bt (by omega) (by omega)]
  omega
theorem boAll_l0 {l : List Int} {l1 : List S56} (hl : l.length ≤ 6) (hp : ∀ x ∈ l, 2 ≤ x ∧ x ≤ 5) (hl1 : l1.length ≤ 40) (ho : ∀ x ∈ l1, ob l x = true) (d : Nat) : ∀ (n : Nat) (x3 : List ByteArray), n + d = prN l l.length → x3.length + d ≤ 1000000 → ∀ k, d + 200 < k →
    spec_boAll.l0 k x3 (n : Int) l l1 = some (x3 ++ ((List.range' n d).map fun m => tT (dgN l l.length m)).filter (frB l1)) := by
  have hN := prN_le hp l.length (Nat.le_refl _)
  have h5i : 5 ^ l.length ≤ 5 ^ 6 := Nat.pow_le_pow_right (by omega) hl
  have h55 : (5 : Nat) ^ 6 = 15625 := rfl
  have hc : ∀ k, 50 < k → spec_boCount.f k l l1 = some ((prN l l.length : Nat) : Int) := fun k hk => by
    rw [count_eq, product (by omega) (by omega)]
    exact congrArg some (pr_num hl hp l 0 (by simp) (by omega))
  induction d with
  | zero =>
    intro n x3 hn hx k hk
    obtain ⟨k, rfl⟩ : ∃ m, k = m + 1 := ⟨k - 1, by omega⟩
    rw [spec_boAll.l0, hc k (by omega)]
    simp only [Option.bind_some]
    rw [if_neg (by omega)]
    simp
  | succ d ih =>
    intro n x3 hn hx k hk
    obtain ⟨k, rfl⟩ : ∃ m, k = m + 1 := ⟨k - 1, by omega⟩
    have hst : spec_boState.f k l l1 (n : Int) = some (tT (dgN l l.length n)) := by
      unfold spec_boState.f
      have := boState_l0 (l1 := l1) hl hp l.length n [] (Nat.le_refl _) (by omega) (by simp; omega) k (by omega)
      rw [List.append_nil] at this
      rw [w64 (by omega) (by omega)]
      exact this
    have hmem : dgN l l.length n ∈ stL l l.length := by
      rw [stL_num hp l.length (Nat.le_refl _)]
      exact List.mem_map.2 ⟨n, List.mem_range.2 (by omega), rfl⟩
    obtain ⟨hs, hok⟩ := st_ok hp hmem
    have hfr : spec_boFree.f k l l1 (tT (dgN l l.length n)) = some (frB l1 (tT (dgN l l.length n))) := by
      unfold spec_boFree.f
      exact boFree_l0 (l1 := l1) (by omega) hl hp hs hok l1 k 0 (by simp) ho (by omega)
    have ew : Aside0 (wrap64 ((n : Int) + 1) = ((n + 1 : Nat) : Int)) := ⟨by rw [w64 (by omega) (by omega)]; omega⟩
    rw [spec_boAll.l0, hc k (by omega)]
    simp only [Option.bind_some]
    rw [if_pos (by omega), hst]
    simp only [Option.bind_some]
    rw [hfr]
    simp only [Option.bind_some]
    rw [ew.out, List.range'_succ, List.map_cons]
    cases hq : frB l1 (tT (dgN l l.length n)) with
    | true =>
      rw [if_pos rfl, if_pos (by omega), ih (n + 1) _ (by omega) (by rw [List.length_append]; simp; omega) k (by omega), List.filter_cons_of_pos hq, List.append_assoc]
      rfl
    | false =>
      rw [if_neg (by decide), ih (n + 1) _ (by omega) (by omega) k (by omega), List.filter_cons_of_neg (by rw [hq]; decide)]
theorem statesBoth {l : List Int} {l1 : List S56} (hg : gd l l1 = true) : ∃ R : List ByteArray, R.length ≤ 1000000 ∧ ∀ k, 1300000 < k → spec_boAll.f k l l1 = some R ∧ impl_Bolts_states.f k l l1 = some R := by
  obtain ⟨hl, hp, hb, ho⟩ := gd_facts hg
  refine ⟨((stL l l.length).map tT).filter (frB l1), ?_, fun k hk => ⟨?_, ?_⟩⟩
  · have h1 := List.length_filter_le (frB l1) ((stL l l.length).map tT)
    rw [List.length_map] at h1
    have hN := stL_len hp l.length (Nat.le_refl _)
    have h5i : 5 ^ l.length ≤ 5 ^ 6 := Nat.pow_le_pow_right (by omega) hl.2
    have h55 : (5 : Nat) ^ 6 = 15625 := rfl
    omega
  · have hN := prN_le hp l.length (Nat.le_refl _)
    have h5i : 5 ^ l.length ≤ 5 ^ 6 := Nat.pow_le_pow_right (by omega) hl.2
    have h55 : (5 : Nat) ^ 6 = 15625 := rfl
    unfold spec_boAll.f
    have := boAll_l0 hl.2 hp hb ho (prN l l.length) 0 [] (by omega) (by simp; omega) k (by omega)
    rw [List.nil_append] at this
    rw [stL_num hp l.length (Nat.le_refl _), List.map_map, List.range_eq_range']
    exact this
  · have hv : ∀ a ∈ (stL l l.length).map tT, impl_Bolts_allowed.f l l1 a = some (frB l1 a) := by
      intro a ha
      obtain ⟨s, hs, rfl⟩ := List.mem_map.1 ha
      obtain ⟨h1, h2⟩ := st_ok hp hs
      exact allowed hl.2 hp h1 h2 ho
    unfold impl_Bolts_states.f
    rw [states_c hl.2 hp hk]
    simp only [Option.bind_some]
    rw [if_pos (List.all_eq_true.2 fun a ha => by rw [hv a ha]; rfl)]
    congr 1
    apply List.filter_congr
    intro a ha
    rw [hv a ha]; rfl

end Go.Proofs.Ytpbgloppcenljaa.Pure
