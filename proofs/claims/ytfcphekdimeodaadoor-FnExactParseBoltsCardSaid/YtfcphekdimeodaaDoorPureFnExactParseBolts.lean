/- The law FnExactParseBolts, told over plain functions, holds for all texts that are no longer than a text can be. -/
import Derived.Test.YtfcphekdimeodaaDoorAx0
import Derived.Test.YtfcphekdimeodaaDoorAx1
import Derived.Test.YtfcphekdimeodaaDoorAx4
import Derived.Test.YtfcphekdimeodaaDoorAx6
import Derived.Test.YtfcphekdimeodaaDoorAx7
import Derived.Test.YtfcphekdimeodaaDoorAx8
import Derived.Test.YtfcphekdimeodaaDoorAx9
import Derived.Test.YtfcphekdimeodaaDoorBolts
import Derived.Test.YtfcphekdimeodaaDoorSplit
set_option linter.unusedVariables false
set_option linter.unusedSimpArgs false
namespace Go.Proofs.YtfcphekdimeodaaDoor.Pure
open Go.RowKit Go.Proofs.YtfcphekdimeodaaDoor.A Go.Proofs.YtfcphekdimeodaaDoorW.PrintWords Go.Proofs.YtfcphekdimeodaaDoorW.PrintLast Go.Proofs.YtfcphekdimeodaaDoorW.PrintMore

/-! the numbers of a text's bytes: as they are, and told apart from what is no digit -/
def nOf (b : UInt8) : Int := (b.toNat : Int) - 48
def dOf (b : UInt8) : Int := if 0 ≤ nOf b ∧ nOf b ≤ 9 then nOf b else -1
def nb (p : List UInt8) : List Int := p.map nOf
def db (p : List UInt8) : List Int := p.map dOf
def blk (l : List Int) : S35 := ⟨rd l 0, rd l 1, rd l 2, rd l 3⟩
theorem byte_n {l : List UInt8} {i : Nat} {c : UInt8} (h : l[i]? = some c) : wrap64 (wrap64 (bt (tx l) (i : Int)) - 48) = nOf c := by
  have hc : c.toNat < 256 := c.toNat_lt
  rw [bt_tx, List.getD, h]
  show wrap64 (wrap64 (c.toNat : Int) - 48) = (c.toNat : Int) - 48
  rw [w64 (x := (c.toNat : Int)) (by omega) (by omega), w64 (by omega) (by omega)]
theorem numbersOf_l0 {l : List UInt8} (hl : l.length ≤ 1048576) (r : List UInt8) : ∀ (k i : Nat) (acc : List Int), l.drop i = r → acc.length ≤ i → r.length < k →
    impl_numbersOf.l0 k (tx l) acc (l.length : Int) (i : Int) = some (acc ++ nb r) := by
  induction r with
  | nil =>
    intro k i acc hd ha hk
    obtain ⟨k, rfl⟩ : ∃ m, k = m + 1 := ⟨k - 1, by omega⟩
    have hle : l.length ≤ i := List.drop_eq_nil_iff.1 hd
    rw [impl_numbersOf.l0, if_neg (by omega)]; simp [nb]
  | cons c r ih =>
    intro k i acc hd ha hk
    obtain ⟨k, rfl⟩ : ∃ m, k = m + 1 := ⟨k - 1, by omega⟩
    obtain ⟨g1, g2, g3⟩ := getElem?_drop_cons hd
    simp only [List.length_cons] at hk
    have e1 : wrap64 ((i : Int) + 1) = ((i + 1 : Nat) : Int) := by rw [w64 (by omega) (by omega)]; omega
    have e2 := byte_n g1
    have b1 : (i : Int) < (l.length : Int) := by clear e1 e2; omega
    have b2 : (0 : Int) ≤ (i : Int) := by clear e1 e2; omega
    have b3 : (i : Int) < ((tx l).size : Int) := by clear e1 e2; rw [tx_size]; omega
    have b4 : acc.length < 17592186044416 := by clear e1 e2; omega
    rw [impl_numbersOf.l0, if_pos b1, if_pos b2, if_pos b3, if_pos b4, e1, e2]
    clear e1 e2
    rw [ih k (i + 1) _ g2 (by simp; omega) (by omega)]
    simp [nb]
theorem numbersOf {l : List UInt8} {k : Nat} (hl : l.length ≤ 1048576) (hk : l.length < k) : impl_numbersOf.f k (tx l) = some (nb l) := by
  unfold impl_numbersOf.f
  rw [tx_size]
  have := numbersOf_l0 hl l k 0 [] (by simp) (by simp) hk
  simpa using this
theorem boDigits_l0 {l : List UInt8} (hl : l.length ≤ 1048576) (r : List UInt8) : ∀ (k i : Nat) (acc : List Int), l.drop i = r → acc.length ≤ i → r.length < k →
    spec_boDigits.l0 k (tx l) acc (i : Int) = some (acc ++ db r) := by
  induction r with
  | nil =>
    intro k i acc hd ha hk
    obtain ⟨k, rfl⟩ : ∃ m, k = m + 1 := ⟨k - 1, by omega⟩
    have hle : l.length ≤ i := List.drop_eq_nil_iff.1 hd
    rw [spec_boDigits.l0, if_neg (by rw [tx_size]; omega)]; simp [db]
  | cons c r ih =>
    intro k i acc hd ha hk
    obtain ⟨k, rfl⟩ : ∃ m, k = m + 1 := ⟨k - 1, by omega⟩
    obtain ⟨g1, g2, g3⟩ := getElem?_drop_cons hd
    simp only [List.length_cons] at hk
    have e1 : wrap64 ((i : Int) + 1) = ((i + 1 : Nat) : Int) := by rw [w64 (by omega) (by omega)]; omega
    have e2 := byte_n g1
    have b2 : (0 : Int) ≤ (i : Int) := by clear e1 e2; omega
    have b3 : (i : Int) < ((tx l).size : Int) := by clear e1 e2; rw [tx_size]; omega
    have b4 : acc.length < 17592186044416 := by clear e1 e2; omega
    have h := ih k (i + 1) (acc ++ [dOf c]) g2 (by simp; clear e1 e2; omega) (by clear e1 e2; omega)
    have e3 : db (c :: r) = dOf c :: db r := rfl
    rw [List.append_assoc, List.singleton_append] at h
    rw [spec_boDigits.l0, if_pos b3, if_pos b2, e1, e2, in_dec0, Option.bind_some, e3]
    by_cases q : 0 ≤ nOf c ∧ nOf c ≤ 9
    · have ed : dOf c = nOf c := if_pos q
      rw [ed] at h ⊢
      rw [decide_eq_true q, if_pos rfl, if_pos b4]
      exact h
    · have ed : dOf c = -1 := if_neg q
      rw [ed] at h ⊢
      rw [decide_eq_false q, if_neg (by decide), if_pos b4]
      exact h
theorem boDigits {l : List UInt8} {k : Nat} (hl : l.length ≤ 1048576) (hk : l.length < k) : spec_boDigits.f k (tx l) = some (db l) := by
  unfold spec_boDigits.f
  have := boDigits_l0 hl l k 0 [] (by simp) (by simp) hk
  simpa using this
/-! the loops over the parts -/
def all4 (ps : List (List UInt8)) : Bool := ps.all fun p => decide (p.length = 4)
theorem txs_get {P : List (List UInt8)} {i : Nat} {p : List UInt8} (h : P[i]? = some p) : rdOf ByteArray.empty (P.map tx) (i : Int) = tx p := by
  unfold rdOf; rw [Int.toNat_natCast, List.getD, List.getElem?_map, h]; rfl
theorem implLoop {P : List (List UInt8)} {l0 : List Int} {M : Nat} (hP : P.length ≤ 1048577) (hM : M ≤ 1048576) (hp : ∀ p ∈ P, p.length ≤ M) (h0 : l0.length ≤ 1048576) (r : List (List UInt8)) : ∀ (k i : Nat) (acc : List (S35)), P.drop i = r → acc.length ≤ i → r.length + M + l0.length + 5 < k →
    impl_ParseBolts.l0 k (P.map tx) (P.length : Int) (i : Int) l0 acc = some (if all4 r = true then (if gd l0 (acc ++ r.map fun p => blk (nb p)) = true then (l0, acc ++ r.map fun p => blk (nb p), true) else ([], [], false)) else ([], [], false)) := by
  induction r with
  | nil =>
    intro k i acc hd ha hk
    obtain ⟨k, rfl⟩ : ∃ m, k = m + 1 := ⟨k - 1, by omega⟩
    have hle : P.length ≤ i := List.drop_eq_nil_iff.1 hd
    rw [impl_ParseBolts.l0, if_neg (by omega), areBolts (by omega) (by simp at hk; omega), Option.bind_some]
    simp only [all4, List.all_nil, if_true, List.map_nil, List.append_nil]
    split <;> rfl
  | cons p r ih =>
    intro k i acc hd ha hk
    obtain ⟨k, rfl⟩ : ∃ m, k = m + 1 := ⟨k - 1, by omega⟩
    obtain ⟨g1, g2, g3⟩ := getElem?_drop_cons hd
    simp only [List.length_cons] at hk
    have hpl := hp p (List.mem_of_getElem? g1)
    have hn : (nb p).length = p.length := by simp [nb]
    have e1 : wrap64 ((i : Int) + 1) = ((i + 1 : Nat) : Int) := by rw [w64 (by omega) (by omega)]; omega
    have E1 := Aside0.mk e1
    clear e1
    rw [impl_ParseBolts.l0, if_pos (by omega), if_pos (by omega), if_pos (by rw [List.length_map]; omega), txs_get g1, numbersOf (by omega) (by omega), Option.bind_some]
    by_cases q : p.length = 4
    · rw [if_pos (by omega), if_pos (by omega), if_pos (by omega), if_pos (by omega), if_pos (by omega), if_pos (by omega), E1.out]
      have h := ih k (i + 1) (acc ++ [blk (nb p)]) g2 (by simp; omega) (by omega)
      have ea : all4 (p :: r) = all4 r := by simp [all4, q]
      rw [ea, List.map_cons]
      rw [List.append_assoc, List.singleton_append] at h
      exact h
    · rw [if_neg (by omega)]
      have ea : all4 (p :: r) = false := by simp [all4, q]
      rw [ea, if_neg (by decide)]
theorem specLoop {P : List (List UInt8)} {l0 : List Int} {M : Nat} (hP : P.length ≤ 1048577) (hM : M ≤ 1048576) (hp : ∀ p ∈ P, p.length ≤ M) (h0 : l0.length ≤ 1048576) (r : List (List UInt8)) : ∀ (k i : Nat) (acc : List (S35)), P.drop i = r → acc.length ≤ i → i ≤ P.length → r.length + M + l0.length + P.length + 5 < k →
    spec_boParse.l0 k (P.map tx) (P.length : Int) (i : Int) l0 acc = some (if all4 r = true then (l0, acc ++ r.map fun p => blk (db p), gd l0 (acc ++ r.map fun p => blk (db p))) else ([], [], false)) := by
  induction r with
  | nil =>
    intro k i acc hd ha hip hk
    obtain ⟨k, rfl⟩ : ∃ m, k = m + 1 := ⟨k - 1, by omega⟩
    have hle : P.length ≤ i := List.drop_eq_nil_iff.1 hd
    rw [spec_boParse.l0, if_neg (by omega)]
    rw [boGood (by omega) (by omega) (by simp at hk; omega), Option.bind_some]
    simp [all4]
  | cons p r ih =>
    intro k i acc hd ha hip hk
    obtain ⟨k, rfl⟩ : ∃ m, k = m + 1 := ⟨k - 1, by omega⟩
    obtain ⟨g1, g2, g3⟩ := getElem?_drop_cons hd
    simp only [List.length_cons] at hk
    have hpl := hp p (List.mem_of_getElem? g1)
    have hn : (db p).length = p.length := by simp [db]
    have e1 : wrap64 ((i : Int) + 1) = ((i + 1 : Nat) : Int) := by rw [w64 (by omega) (by omega)]; omega
    have E1 := Aside0.mk e1
    clear e1
    rw [spec_boParse.l0, if_pos (by omega), if_pos (by omega), if_pos (by rw [List.length_map]; omega), txs_get g1, boDigits (by omega) (by omega), Option.bind_some]
    by_cases q : p.length = 4
    · rw [if_pos (by omega), if_pos (by omega), if_pos (by omega), if_pos (by omega), if_pos (by omega), if_pos (by omega), E1.out]
      have h := ih k (i + 1) (acc ++ [blk (db p)]) g2 (by simp; omega) (by omega) (by omega)
      have ea : all4 (p :: r) = all4 r := by simp [all4, q]
      rw [ea, List.map_cons]
      rw [List.append_assoc, List.singleton_append] at h
      exact h
    · rw [if_neg (by omega)]
      have ea : all4 (p :: r) = false := by simp [all4, q]
      rw [ea, if_neg (by decide)]
/-! the sizes of the parts -/
def total : List (List UInt8) → Nat
  | [] => 0
  | p :: r => p.length + 1 + total r
theorem spl_total : ∀ l : List UInt8, total (spl l) = l.length + 1
  | [] => rfl
  | c :: l => by
    have ih := spl_total l
    rw [spl]
    by_cases q : c = 59
    · rw [if_pos q, total, ih, List.length_cons]; simp; omega
    · rw [if_neg q]
      obtain ⟨h, t, e⟩ := spl_ne l
      rw [e] at ih ⊢
      simp only [total, List.length_cons] at ih ⊢
      omega
theorem total_mem : ∀ {P : List (List UInt8)}, ∀ p ∈ P, p.length + 1 ≤ total P
  | q :: r, p, h => by
    rcases List.mem_cons.1 h with rfl | h
    · rw [total]; omega
    · have := total_mem p h
      rw [total]; omega
theorem total_length : ∀ P : List (List UInt8), P.length ≤ total P
  | [] => Nat.le_refl _
  | p :: r => by have := total_length r; rw [total, List.length_cons]; omega
theorem total_all4 : ∀ {P : List (List UInt8)}, all4 P = true → total P = 5 * P.length
  | [], _ => rfl
  | p :: r, h => by
    simp only [all4, List.all_cons, Bool.and_eq_true, decide_eq_true_eq] at h
    have := total_all4 (P := r) h.2
    rw [total, List.length_cons, h.1, this]; omega
/-! bolts that are told are digits -/
theorem dn_same {b : UInt8} (h : 0 ≤ dOf b ∨ (0 ≤ nOf b ∧ nOf b ≤ 9)) : dOf b = nOf b := by
  unfold dOf at h ⊢
  by_cases q : 0 ≤ nOf b ∧ nOf b ≤ 9
  · rw [if_pos q]
  · rw [if_neg q] at h
    rcases h with h | h
    · omega
    · exact absurd h q
theorem four {p : List UInt8} (h : p.length = 4) : ∃ a b c d, p = [a, b, c, d] := by
  match p, h with
  | [a, b, c, d], _ => exact ⟨a, b, c, d, rfl⟩
theorem same_digits {p0 : List UInt8} {ps : List (List UInt8)} (ha : all4 ps = true) (h : gd (db p0) (ps.map fun p => blk (db p)) = true ∨ gd (nb p0) (ps.map fun p => blk (nb p)) = true) :
    db p0 = nb p0 ∧ (ps.map fun p => blk (db p)) = (ps.map fun p => blk (nb p)) := by
  have h4 : ∀ p ∈ ps, p.length = 4 := fun p hp => of_decide_eq_true (List.all_eq_true.1 ha p hp)
  have key : ∀ (g : UInt8 → Int), (∀ b, 0 ≤ g b → g b ≤ 9 → dOf b = nOf b) → gd (p0.map g) (ps.map fun p => blk (p.map g)) = true → db p0 = nb p0 ∧ (ps.map fun p => blk (db p)) = (ps.map fun p => blk (nb p)) := by
    intro g hg hgd
    obtain ⟨f1, f2, f3, f4⟩ := gd_facts hgd
    constructor
    · apply List.map_congr_left
      intro b hb
      have := f2 (g b) (List.mem_map_of_mem hb)
      exact hg b (by omega) (by omega)
    · apply List.map_congr_left
      intro p hp
      have ho := f4 _ (List.mem_map_of_mem (f := fun p => blk (p.map g)) hp)
      obtain ⟨a, b, c, d, rfl⟩ := four (h4 p hp)
      have hf := ob_facts f1.2 f2 ho
      obtain ⟨o1, o2, _, o3, o4⟩ := hf
      have m0 := f2 _ (rd_mem (l := p0.map g) (i := (blk ([a, b, c, d].map g)).f0) ⟨o1.1, o1.2⟩)
      have m2 := f2 _ (rd_mem (l := p0.map g) (i := (blk ([a, b, c, d].map g)).f2) ⟨o2.1, o2.2⟩)
      have ea : (blk ([a, b, c, d].map g)).f0 = g a := rfl
      have eb : (blk ([a, b, c, d].map g)).f1 = g b := rfl
      have ec : (blk ([a, b, c, d].map g)).f2 = g c := rfl
      have ed : (blk ([a, b, c, d].map g)).f3 = g d := rfl
      rw [ea] at o1 o3 m0
      rw [eb] at o3
      rw [ec] at o2 o4 m2
      rw [ed] at o4
      have da := hg a (by omega) (by omega)
      have dbb := hg b (by omega) (by omega)
      have dc := hg c (by omega) (by omega)
      have dd := hg d (by omega) (by omega)
      show (⟨dOf a, dOf b, dOf c, dOf d⟩ : S35) = ⟨nOf a, nOf b, nOf c, nOf d⟩
      rw [da, dbb, dc, dd]
  rcases h with h | h
  · exact key dOf (fun b h1 _ => dn_same (.inl h1)) h
  · exact key nOf (fun b h1 h2 => dn_same (.inr ⟨h1, h2⟩)) h
/-- what both functions answer -/
theorem bothParse (s : ByteArray) (hs : s.size ≤ 1048576) : ∃ (l0 : List Int) (l1 : List (S35)) (c : Bool), l0.length ≤ 6 ∧ l1.length ≤ 40 ∧ ∀ k, 6000000 < k → spec_ParseBolts.f k s = some (l0, l1, c) ∧ impl_ParseBolts.f k s = some (l0, l1, c) := by
  obtain ⟨l, rfl⟩ : ∃ l, s = tx l := ⟨_, tx_of s⟩
  rw [tx_size] at hs
  obtain ⟨p0, ps, he⟩ := spl_ne l
  have ht := spl_total l
  have hm : ∀ p ∈ spl l, p.length ≤ l.length := fun p hp => by have := total_mem p hp; omega
  have hlen := total_length (spl l)
  rw [he] at ht hm hlen
  simp only [List.length_cons, total] at ht hlen
  have hp0 := hm p0 (by simp)
  have hps : ∀ p ∈ ps, p.length ≤ l.length := fun p hp => hm p (by simp [hp])
  have hnl : (nb p0).length = p0.length := by simp [nb]
  have hdl : (db p0).length = p0.length := by simp [db]
  have hlp : ((spl l).map tx).length = ps.length + 1 := by rw [he]; simp
  have hr0 : rdOf ByteArray.empty ((spl l).map tx) 0 = tx p0 := by rw [show (0 : Int) = ((0 : Nat) : Int) from rfl]; exact txs_get (by rw [he]; rfl)
  have hdr : ((spl l).map tx).drop 1 = ps.map tx := by rw [he]; rfl
  have himpl : ∀ k, 6000000 < k → impl_ParseBolts.f k (tx l) = some (if ps.length + 1 ≤ 41 ∧ all4 ps = true ∧ gd (nb p0) (ps.map fun p => blk (nb p)) = true then (nb p0, ps.map fun p => blk (nb p), true) else ([], [], false)) := by
    intro k hk
    unfold impl_ParseBolts.f
    rw [implSplit hs, Option.bind_some, hlp]
    by_cases q : ps.length + 1 ≤ 41
    · have hloop := implLoop (P := ps) (l0 := nb p0) (M := l.length) (by omega) hs hps (by omega) ps k 0 [] (by simp) (by simp) (by omega)
      rw [List.nil_append] at hloop
      rw [if_neg (by omega), if_pos (by omega), hr0, numbersOf (by omega) (by omega), Option.bind_some, if_pos (by omega), hdr, Option.bind_some, List.length_map]
      refine hloop.trans (congrArg some ?_)
      by_cases q1 : all4 ps = true
      · rw [if_pos q1]
        by_cases q2 : gd (nb p0) (ps.map fun p => blk (nb p)) = true
        · rw [if_pos q2, if_pos ⟨q, q1, q2⟩]
        · rw [if_neg q2, if_neg (fun h => q2 h.2.2)]
      · rw [if_neg q1, if_neg (fun h => q1 h.2.1)]
    · rw [if_pos (by omega), if_neg (fun h => q h.1)]
  have hspec : ∀ k, 6000000 < k → spec_ParseBolts.f k (tx l) = some (if l.length ≤ 206 ∧ all4 ps = true ∧ gd (db p0) (ps.map fun p => blk (db p)) = true then (db p0, ps.map fun p => blk (db p), true) else ([], [], false)) := by
    intro k hk
    unfold spec_ParseBolts.f spec_boParse.f
    rw [tx_size]
    by_cases q : l.length ≤ 206
    · have hloop := specLoop (P := ps) (l0 := db p0) (M := l.length) (by omega) hs hps (by omega) ps k 0 [] (by simp) (by simp) (by omega) (by omega)
      rw [List.nil_append] at hloop
      rw [if_neg (by omega), specSplit hs (by omega), Option.bind_some, hlp, if_pos (by omega), hr0, boDigits (by omega) (by omega), Option.bind_some, if_pos (by omega), hdr, Option.bind_some, List.length_map]
      rw [show (0 : Int) = ((0 : Nat) : Int) from rfl]
      by_cases q1 : all4 ps = true
      · rw [if_pos q1] at hloop
        rw [hloop, Option.bind_some]
        by_cases q2 : gd (db p0) (ps.map fun p => blk (db p)) = true
        · simp only [q2, if_true]
          rw [if_pos ⟨q, q1, trivial⟩]
        · have q3 : gd (db p0) (ps.map fun p => blk (db p)) = false := by simpa using q2
          simp only [q3, Bool.false_eq_true, if_false]
          rw [if_neg (fun h => h.2.2)]
      · rw [if_neg q1] at hloop
        rw [hloop, Option.bind_some, if_neg (show ¬ (false = true) by decide), if_neg (fun h => q1 h.2.1)]
    · rw [if_pos (by omega), Option.bind_some, if_neg (show ¬ (false = true) by decide), if_neg (fun h => q h.1)]
  by_cases C : all4 ps = true ∧ gd (nb p0) (ps.map fun p => blk (nb p)) = true
  · obtain ⟨e1, e2⟩ := same_digits C.1 (.inr C.2)
    obtain ⟨f1, _, f3, _⟩ := gd_facts C.2
    rw [List.length_map] at f3
    have ht4 := total_all4 C.1
    refine ⟨nb p0, ps.map fun p => blk (nb p), true, f1.2, by rw [List.length_map]; exact f3, fun k hk => ⟨?_, ?_⟩⟩
    · rw [hspec k hk, e1, e2, if_pos ⟨by omega, C.1, C.2⟩]
    · rw [himpl k hk, if_pos ⟨by omega, C.1, C.2⟩]
  · refine ⟨[], [], false, by simp, by simp, fun k hk => ⟨?_, ?_⟩⟩
    · rw [hspec k hk, if_neg]
      intro h
      obtain ⟨e1, e2⟩ := same_digits h.2.1 (.inl h.2.2)
      exact C ⟨h.2.1, by rw [← e1, ← e2]; exact h.2.2⟩
    · rw [himpl k hk, if_neg (fun h => C h.2)]
/-! marks on blocks -/
def mkB : Int → Nat → List (S35)
  | _, 0 => []
  | m, d + 1 => ⟨m, m + 1, m + 2, m + 3⟩ :: mkB (m + 4) d
theorem mkB_length (m : Int) (d : Nat) : (mkB m d).length = d := by
  induction d generalizing m with
  | zero => rfl
  | succ d ih => simp [mkB, ih]
theorem rdT_set {x : List (S35)} {i : Nat} (h : i < x.length) (a : S35) : rd_T35 (x.set i a) (i : Int) = a := rdT (List.getElem?_set_self h)
theorem markB_l0 (d : Nat) : ∀ (k i : Nat) (x : List (S35)) (m : Int), i + d = x.length → x.length ≤ 2000000 → 0 ≤ m → m ≤ 1000000000 + 4 * (i : Int) → d < k →
    laws_markBlockS.l0 k x m (i : Int) = some (m + 4 * (d : Int), x.take i ++ mkB m d) := by
  induction d with
  | zero =>
    intro k i x m hi hx h0 h1 hk
    obtain ⟨k, rfl⟩ : ∃ m, k = m + 1 := ⟨k - 1, by omega⟩
    rw [laws_markBlockS.l0, if_neg (by omega), List.take_of_length_le (by omega)]
    simp [mkB]
  | succ d ih =>
    intro k i x m hi hx h0 h1 hk
    obtain ⟨k, rfl⟩ : ∃ m, k = m + 1 := ⟨k - 1, by omega⟩
    have hl : i < x.length := by omega
    have w1 : wrap64 (m + 1) = m + 1 := w64 (by omega) (by omega)
    have W1 := Aside0.mk w1; clear w1
    have w2 : wrap64 (m + 1 + 1) = m + 2 := by rw [w64 (by omega) (by omega)]; omega
    have W2 := Aside0.mk w2; clear w2
    have w3 : wrap64 (m + 2 + 1) = m + 3 := by rw [w64 (by omega) (by omega)]; omega
    have W3 := Aside0.mk w3; clear w3
    have w4 : wrap64 (m + 3 + 1) = m + 4 := by rw [w64 (by omega) (by omega)]; omega
    have W4 := Aside0.mk w4; clear w4
    have w5 : wrap64 ((i : Int) + 1) = ((i + 1 : Nat) : Int) := by rw [w64 (by omega) (by omega)]; omega
    have W5 := Aside0.mk w5; clear w5
    rw [laws_markBlockS.l0, if_pos (by omega), if_pos (by omega)]
    simp only [Option.bind_some, Int.toNat_natCast]
    rw [W1.out, W2.out, W3.out, W4.out, W5.out]
    rw [rdT_set (by omega)]
    simp only [List.set_set]
    rw [rdT_set (by omega)]
    simp only [List.set_set]
    rw [rdT_set (by omega)]
    simp only [List.set_set]
    rw [ih k (i + 1) _ (m + 4) (by rw [List.length_set]; omega) (by rw [List.length_set]; exact hx) (by omega) (by omega) (by omega)]
    congr 2
    · omega
    · rw [mkB, List.take_add_one, List.take_set_of_le (Nat.le_refl i), List.getElem?_set_self hl]
      simp
theorem heldB_l0 (d : Nat) : ∀ (k i : Nat) (x : List (S35)) (m : Int), i + d = x.length → x.drop i = mkB m d → x.length ≤ 2000000 → 0 ≤ m → m ≤ 1000000000 + 4 * (i : Int) → d < k →
    laws_heldBlockS.l0 k x m (i : Int) = some (m + 4 * (d : Int)) := by
  induction d with
  | zero =>
    intro k i x m hi hd hx h0 h1 hk
    obtain ⟨k, rfl⟩ : ∃ m, k = m + 1 := ⟨k - 1, by omega⟩
    rw [laws_heldBlockS.l0, if_neg (by omega)]; simp
  | succ d ih =>
    intro k i x m hi hd hx h0 h1 hk
    obtain ⟨k, rfl⟩ : ∃ m, k = m + 1 := ⟨k - 1, by omega⟩
    obtain ⟨g1, g2, g3⟩ := getElem?_drop_cons hd
    have w1 : wrap64 (m + 1) = m + 1 := w64 (by omega) (by omega)
    have W1 := Aside0.mk w1; clear w1
    have w2 : wrap64 (m + 1 + 1) = m + 2 := by rw [w64 (by omega) (by omega)]; omega
    have W2 := Aside0.mk w2; clear w2
    have w3 : wrap64 (m + 2 + 1) = m + 3 := by rw [w64 (by omega) (by omega)]; omega
    have W3 := Aside0.mk w3; clear w3
    have w4 : wrap64 (m + 3 + 1) = m + 4 := by rw [w64 (by omega) (by omega)]; omega
    have W4 := Aside0.mk w4; clear w4
    have w5 : wrap64 ((i : Int) + 1) = ((i + 1 : Nat) : Int) := by rw [w64 (by omega) (by omega)]; omega
    have W5 := Aside0.mk w5; clear w5
    rw [laws_heldBlockS.l0, if_pos (by omega), if_pos (by omega), rdT g1, W1.out, W2.out, W3.out, W4.out, W5.out, if_pos rfl, if_pos rfl, if_pos rfl, if_pos rfl]
    rw [ih k (i + 1) x (m + 4) (by omega) g2 hx (by omega) (by omega) (by omega)]
    congr 1; omega
theorem markBolts {l0 : List Int} {l1 : List (S35)} {k : Nat} (h0 : l0.length ≤ 1000000) (h1 : l1.length ≤ 1000000) (hk : l0.length + l1.length < k) :
    laws_markBolts.f k l0 l1 1 = some (1 + (l0.length : Int) + 4 * (l1.length : Int), mk 1 l0.length, mkB (1 + (l0.length : Int)) l1.length) := by
  unfold laws_markBolts.f
  have hb := markB_l0 l1.length k 0 l1 (1 + (l0.length : Int)) (by omega) (by omega) (by omega) (by omega) (by omega)
  rw [markIntS (by omega) (by omega), Option.bind_some]
  unfold laws_markBlockS.f
  simp only
  rw [show (0 : Int) = ((0 : Nat) : Int) from rfl, hb, Option.bind_some]
  simp
theorem heldBolts {a b : Nat} {k : Nat} (h0 : a ≤ 1000000) (h1 : b ≤ 1000000) (hk : a + b < k) :
    laws_heldBolts.f k (mk 1 a) (mkB (1 + (a : Int)) b) 1 = some (1 + (a : Int) + 4 * (b : Int)) := by
  unfold laws_heldBolts.f
  have hb := heldB_l0 b k 0 (mkB (1 + (a : Int)) b) (1 + (a : Int)) (by rw [mkB_length]; omega) rfl (by rw [mkB_length]; omega) (by omega) (by omega) (by omega)
  rw [heldIntS (by omega) (by omega), Option.bind_some, if_neg (by omega)]
  unfold laws_heldBlockS.f
  rw [show laws_heldBlockS.l0 k (mkB (1 + (a : Int)) b) (1 + (a : Int)) 0 = some (1 + (a : Int) + 4 * (b : Int)) from hb, Option.bind_some, if_neg (by omega)]
theorem law_ok (s : ByteArray) {k : Nat} (hk : 6000010 < k) : laws_FnExactParseBolts.f k s = some true := by
  unfold laws_FnExactParseBolts.f
  by_cases hbig : (s.size : Int) > 1048576
  · rw [if_pos hbig]
  rw [if_neg hbig]
  obtain ⟨l0, l1, c, h0, h1, H⟩ := bothParse s (by omega)
  obtain ⟨j, rfl⟩ : ∃ j, k = j + 1 + 1 := ⟨k - 2, by omega⟩
  have hE : ∀ k, 100 < k → laws_eqBolts.f k l0 l1 l0 l1 = some true := fun k hk => eqBolts (by omega) (by omega) (by omega)
  rw [(H (j + 1 + 1) (by omega)).1, (H (j + 1 + 1) (by omega)).2]
  simp only [Option.bind_some, hE (j + 1 + 1) (by omega), if_true, bne_self_eq_false]
  rw [laws_FnExactParseBolts.j0, if_neg (by decide), markBolts (by omega) (by omega) (by omega)]
  simp only [Option.bind_some]
  rw [heldBolts (by omega) (by omega) (by omega), Option.bind_some, if_neg (by omega), if_pos rfl, (H (j + 1) (by omega)).2]
  simp only [Option.bind_some, hE (j + 1) (by omega), if_true, bne_self_eq_false]
  rw [laws_FnExactParseBolts.j1, if_neg (by decide), heldBolts (by omega) (by omega) (by omega), Option.bind_some, if_neg (by omega), if_pos rfl]
theorem FnExactParseBolts : laws_FnExactParseBolts.Pure := by
  intro s _
  obtain ⟨k, hk⟩ : ∃ k : Nat, k = 6000011 := ⟨_, rfl⟩
  exact ⟨k, law_ok s (by omega)⟩

end Go.Proofs.YtfcphekdimeodaaDoor.Pure
