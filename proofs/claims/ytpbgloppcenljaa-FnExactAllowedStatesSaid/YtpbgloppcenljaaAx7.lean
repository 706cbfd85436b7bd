-- written by a program of this session's over the kit's print (xp.py)
import Derived.Test.YtpbgloppcenljaaAx0
import Derived.Test.YtpbgloppcenljaaAx6
namespace Go.Proofs.Ytpbgloppcenljaa.A
-- slim
set_option maxHeartbeats 8000000
set_option maxRecDepth 100000
open Go.RowKit Go.Proofs.YtpbgloppcenljaaW.PrintWords Go.Proofs.YtpbgloppcenljaaW.PrintLast Go.Proofs.YtpbgloppcenljaaW.PrintMore
attribute [local go_sem] max2_int min2_int max_two min_two max_three min_three max_four min_four   -- for this text's walks alone
set_option linter.unusedVariables false
set_option linter.unusedSimpArgs false

/-! ### slices.IndexFunc, slices.DeleteFunc over texts, at a function value that may lay blocks of its own -/
def idxP (p : ByteArray → Bool) (l : List ByteArray) : Int := if l.findIdx p < l.length then (l.findIdx p : Int) else -1
theorem rdOf_get {l : List ByteArray} {k : Nat} (h : k < l.length) : rdOf ByteArray.empty l (k : Int) = l[k] := by
 simp [rdOf, List.getD, h]
theorem slices_IndexFunc_strs (g : Nat) (q : Value) (p : ByteArray → Bool) (A0 : Option Addr) (c0 : Nat) (l0 : List ByteArray) (w : World) (hr0 : Kd.C Kd.string w A0 l0.length l0) (hc0 : l0.length ≤ c0)
  (eg : ∀ args w, (callFunc g args).run Try.prog w = .ok (.enter g args) w)
  (hp : ∀ (x : ByteArray) (W : World), x ∈ l0 → Below w.heap.size w W → Calls Try.prog g #[.string x, q] W fun e w' => e = .returned (.bool (p x)) ∧ Below W.heap.size W w') :
  Calls Try.prog 50 #[.slice A0 l0.length c0, .func (.func g) #[] #[q]] w fun e w' => e = .returned (.int .i64 (idxP p l0)) ∧ Below w.heap.size w w' := by
 have HR0 := Aside0.mk hr0
 have HP := Aside0.mk hp
 clear hr0 hp
 have HB0 := Aside0.mk (Below.refl w.heap.size w)
 go_enter Try.func50, Try.ntmps50
 go_wp2
 go_loopg [8] l0.length (fun kq v8 w' => ∃ kk : Nat, kk ≤ l0.length ∧ l0.length - kk ≤ kq ∧ v8 = .int .i64 kk ∧ Aside0 (Below w.heap.size w w') ∧ Aside0 (∀ (j : Nat) (hj : j < l0.length), j < kk → p l0[j] = false))
 case atStart => exact ⟨0, Nat.zero_le _, by omega, rfl, ⟨by repeat (first | exact HB0.out | apply pw_below_drewN | apply below_drew1)⟩, ⟨fun j hj h => absurd h (Nat.not_lt_zero _)⟩⟩
 case round =>
  obtain ⟨kk, hkk, hgg, rfl, HB, HA⟩ := hrel
  by_cases hlt : (kk : Int) < (l0.length : Int)
  ·have c1 : decide ((kk : Int) < (l0.length : Int)) = true := decide_eq_true hlt
   have hltn : kk < l0.length := by omega
   obtain ⟨ad, e, hx0⟩ := Kd.at_string HR0.out (kk : Int) (by omega) hlt
   cases e
   have p5 : (0 ≤ (kk : Int)) = True := eq_true (by omega)
   have q5 : ((kk : Int) < (l0.length : Int)) = True := eq_true hlt
   replace hx0 := (HB.out.cell (World.block_lt_of_cell? w _ hx0)).trans hx0
   rw [Int.toNat_natCast, rdOf_get hltn] at hx0
   obtain ⟨y, hy⟩ : ∃ y : ByteArray, l0[kk] = y := ⟨_, rfl⟩
   have hmem : y ∈ l0 := hy ▸ List.getElem_mem hltn
   rw [hy] at hx0
   have Hy := Aside0.mk (List.getElem?_eq_some_iff.2 ⟨hltn, hy⟩)
   clear hy
   have HT := Aside0.mk hltn
   have hcall := fun W => HP.out y W hmem
   clear hmem hltn
   cases hq : p y with
   | true =>
    rw [hq] at hcall
    go_wp2_with fail
    refine (hcall _ (by repeat (first | exact HB.out | apply below_alloc | apply pw_below_drewN | apply below_drew1 | exact Below.refl _ _))).mono ?_
    rintro e w' ⟨rfl, hb'⟩
    have HQ := Aside0.mk hq
    have HB' := Aside0.mk (below_step (by repeat (first | exact HB.out | apply below_alloc | apply pw_below_drewN | apply below_drew1 | exact Below.refl _ _)) hb')
    clear hb' hq
    go_wp2
    go_ret
    refine ⟨?_, by repeat (first | exact HB'.out | apply pw_below_drewN | apply below_drew1)⟩
    have hf : l0.findIdx p = kk := (List.findIdx_eq HT.out).2 ⟨by rw [(List.getElem?_eq_some_iff.1 Hy.out).2]; exact HQ.out, fun j hj => HA.out j (Nat.lt_trans hj HT.out) hj⟩
    unfold idxP
    rw [hf, if_pos HT.out]
    rfl
   | false =>
    rw [hq] at hcall
    go_wp2_with fail
    refine (hcall _ (by repeat (first | exact HB.out | apply below_alloc | apply pw_below_drewN | apply below_drew1 | exact Below.refl _ _))).mono ?_
    rintro e w' ⟨rfl, hb'⟩
    have HQ := Aside0.mk hq
    have HB' := Aside0.mk (below_step (by repeat (first | exact HB.out | apply below_alloc | apply pw_below_drewN | apply below_drew1 | exact Below.refl _ _)) hb')
    clear hb' hq
    go_wp2
    go_roundg (l0.length - (kk + 1))
    case measure => omega
    case rel => exact ⟨kk + 1, by omega, by omega, by have h_ := HR0.out.2.1; rw [show wrap64 ((kk : Int) + 1) = ((kk + 1 : Nat) : Int) by unfold wrap64; omega], ⟨by repeat (first | exact HB'.out | apply pw_below_drewN | apply below_drew1)⟩, ⟨fun j hj hlt' => by
     by_cases e : j = kk
     ·subst e; rw [(List.getElem?_eq_some_iff.1 Hy.out).2]; exact HQ.out
     ·exact HA.out j hj (by omega)⟩⟩
  ·have c1 : decide ((kk : Int) < (l0.length : Int)) = false := decide_eq_false hlt
   go_wp2
   go_ret
   refine ⟨?_, (by repeat (first | exact HB.out | apply below_alloc | apply pw_below_drewN | apply below_drew1 | exact Below.refl _ _))⟩
   have hf : l0.findIdx p = l0.length := List.findIdx_eq_length.2 (fun x hx => by
    obtain ⟨j, hj, rfl⟩ := List.getElem_of_mem hx
    exact HA.out j hj (by omega))
   unfold idxP
   rw [hf, if_neg (Nat.lt_irrefl _)]
   rfl
theorem str_zero : ∀ w, (zeroValue 9).run Try.prog w = .ok (.string ⟨#[]⟩) w := by
 obtain ⟨i0, hi, hz0, _, _⟩ := info_parts info9
 intro w
 simp [zeroValue, typeInfo, hi, hz0]
theorem R_clear {e base g n cap : Nat} {ok : Nat → Prop} (z : ByteArray) : ∀ (k i : Nat) (W : World) (zs : List ByteArray), i + k ≤ zs.length → Kd.R Kd.string e W base ok (.slice (some ⟨g, 0, none⟩) n cap) zs →
  ∃ zs', Kd.R Kd.string e (W.setCells g i (List.replicate k (.string z))) base ok (.slice (some ⟨g, 0, none⟩) n cap) zs' ∧ zs'.length = zs.length ∧ zs'.take i = zs.take i
 | 0, _, _, zs, _, h => ⟨zs, h, rfl, rfl⟩
 | k + 1, i, W, zs, hl, h => by
  have h1 := Kd.R_putn h (i : Int) z
  rw [Int.toNat_natCast] at h1
  obtain ⟨zs', h2, h3, h4⟩ := R_clear z k (i + 1) _ (zs.set i z) (by rw [List.length_set]; omega) h1
  refine ⟨zs', h2, by rw [h3, List.length_set], ?_⟩
  have h5 := congrArg (List.take i) h4
  rw [List.take_take, List.take_take, Nat.min_eq_left (Nat.le_succ i), List.take_set_of_le (Nat.le_refl i)] at h5
  exact h5
theorem below_sets {B b : Nat} {a : World} (hb : B ≤ b) : ∀ (vs : List Value) (o : Nat) (w : World), Below B a w → Below B a (w.setCells b o vs)
 | [], _, _, h => h
 | v :: vs, o, w, h => below_sets hb vs (o + 1) _ (Below.setCell h (p := ⟨b, o, none⟩) hb v)
def OldBut (w : World) (v : Value) (W : World) : Prop := w.heap.size ≤ W.heap.size ∧ ∀ i, i < w.heap.size → some i ≠ v.ownBlock → W.heap[i]? = w.heap[i]?
theorem ob_refl (w : World) (v : Value) : OldBut w v w := ⟨Nat.le_refl _, fun _ _ _ => rfl⟩
theorem ob_below {w W W' : World} {v : Value} (h : OldBut w v W) (hb : Below W.heap.size W W') : OldBut w v W' := ⟨Nat.le_trans h.1 hb.size, fun i hi hn => (hb.block i (Nat.lt_of_lt_of_le hi h.1)).trans (h.2 i hi hn)⟩
theorem ob_drewN {w W : World} {v : Value} (h : OldBut w v W) (m : Nat) : OldBut w v (W.drewN m) := h
theorem ob_drew {w W : World} {v : Value} (h : OldBut w v W) : OldBut w v W.drew := h
theorem ob_set {w W : World} {g n cap : Nat} (h : OldBut w (.slice (some ⟨g, 0, none⟩) n cap) W) (j : Nat) (u : Value) : OldBut w (.slice (some ⟨g, 0, none⟩) n cap) (W.setCell ⟨g, j, none⟩ u) :=
 ⟨by simpa [World.setCell] using h.1, fun i hi hn => (Below.heap_setCell W ⟨g, j, none⟩ u i (fun e => hn (by subst e; rfl))).trans (h.2 i hi hn)⟩
theorem ob_blk {w W : World} {v : Value} (h : OldBut w v W) {g : Nat} {o : Obj} (hb : w.heap[g]? = some o) (hn : some g ≠ v.ownBlock) : W.heap[g]? = some o := (h.2 g (blk_lt hb) hn).trans hb
/-- how far the row has come: i texts kept, j looked at -/
structure Part (p : ByteArray → Bool) (l zs : List ByteArray) (i j : Nat) : Prop where
 len : zs.length = l.length
 lt : i < j
 le : j ≤ l.length
 done : zs.take i = (l.take j).filter fun x => !p x
 rest : zs.drop j = l.drop j
theorem Part.start {p : ByteArray → Bool} {l : List ByteArray} (h : l.findIdx p < l.length) : Part p l l (l.findIdx p) (l.findIdx p + 1) := by
 refine ⟨rfl, Nat.lt_succ_self _, h, ?_, rfl⟩
 have e : l.take (l.findIdx p + 1) = l.take (l.findIdx p) ++ [l[l.findIdx p]] := by rw [List.take_succ_eq_append_getElem h]
 have h1 : p l[l.findIdx p] = true := List.findIdx_getElem
 rw [e, List.filter_append, List.filter_eq_self.2, List.filter_cons_of_neg (by simp [h1]), List.filter_nil, List.append_nil]
 intro x hx
 obtain ⟨j, hj, rfl⟩ := List.getElem_of_mem hx
 rw [List.length_take] at hj
 rw [List.getElem_take]
 have := List.not_of_lt_findIdx (p := p) (xs := l) (i := j) (by omega)
 simpa using this
theorem Part.get {p : ByteArray → Bool} {l zs : List ByteArray} {i j : Nat} (h : Part p l zs i j) (hj : j < l.length) : rdOf ByteArray.empty zs (j : Int) = l[j] := by
 rw [rdOf_get (by rw [h.len]; exact hj)]
 have h1 : zs[j]? = l[j]? := by
  have := congrArg (fun q : List ByteArray => q[0]?) h.rest
  simpa [List.getElem?_drop] using this
 rw [List.getElem?_eq_getElem (by rw [h.len]; exact hj), List.getElem?_eq_getElem hj] at h1
 exact Option.some.inj h1
theorem Part.next {l zs : List ByteArray} {j : Nat} (h : zs.drop j = l.drop j) : zs.drop (j + 1) = l.drop (j + 1) := by
 have := congrArg (List.drop 1) h
 rwa [List.drop_drop, List.drop_drop] at this
theorem Part.keep {p : ByteArray → Bool} {l zs : List ByteArray} {i j : Nat} (h : Part p l zs i j) (hj : j < l.length) (hp : p l[j] = false) : Part p l (zs.set i l[j]) (i + 1) (j + 1) := by
 have hlt := h.lt
 have hi : i < zs.length := by rw [h.len]; omega
 refine ⟨by rw [List.length_set, h.len], by omega, hj, ?_, ?_⟩
 ·rw [List.take_succ_eq_append_getElem (by rw [List.length_set]; exact hi), List.take_set_of_le (Nat.le_refl i), List.getElem_set_self, h.done, List.take_succ_eq_append_getElem hj, List.filter_append, List.filter_cons_of_pos (by simp [hp]), List.filter_nil]
 ·rw [List.drop_set_of_lt (by omega)]
  exact Part.next h.rest
theorem Part.skip {p : ByteArray → Bool} {l zs : List ByteArray} {i j : Nat} (h : Part p l zs i j) (hj : j < l.length) (hp : p l[j] = true) : Part p l zs i (j + 1) := by
 have hlt := h.lt
 refine ⟨h.len, by omega, hj, ?_, Part.next h.rest⟩
 rw [h.done, List.take_succ_eq_append_getElem hj, List.filter_append, List.filter_cons_of_neg (by simp [hp]), List.filter_nil, List.append_nil]
theorem Part.all {p : ByteArray → Bool} {l zs : List ByteArray} {i : Nat} (h : Part p l zs i l.length) : zs.take i = l.filter fun x => !p x := by rw [h.done, List.take_length]
theorem slices_DeleteFunc_strs (g : Nat) (q : Value) (p : ByteArray → Bool) (v : Value) (l : List ByteArray) (w0 w : World) (hR : Kd.R Kd.string 9 w w0.heap.size (fun _ => True) v l) (hB : Below w0.heap.size w0 w)
  (eg : ∀ args w, (callFunc g args).run Try.prog w = .ok (.enter g args) w)
  (hp : ∀ (x : ByteArray) (W : World), x ∈ l → Below w0.heap.size w0 W → OldBut w v W → Calls Try.prog g #[.string x, q] W fun e w' => e = .returned (.bool (p x)) ∧ Below W.heap.size W w') :
  Calls Try.prog 43 #[v, .func (.func g) #[] #[q]] w fun e w' => ∃ v0_ : Value, e = .returned v0_ ∧ Kd.R Kd.string 9 w' w0.heap.size (fun _ => True) v0_ (l.filter fun x => !p x) ∧ Below w0.heap.size w0 w' := by
 obtain ⟨A, c, rfl, hlc, hC⟩ := Kd.R_reads hR
 have hll := hC.2.1
 have hIF := slices_IndexFunc_strs g q p A c l w hC hlc eg (fun x W hx hW => hp x W hx (below_step hB hW) (ob_below (ob_refl _ _) hW))
 have HR := Aside0.mk hR
 have HB := Aside0.mk hB
 have HP := Aside0.mk hp
 have HIF := Aside0.mk hIF
 clear hC hIF hp hB
 by_cases hk : l.findIdx p < l.length
 ·have hix : idxP p l = (l.findIdx p : Int) := by unfold idxP; rw [if_pos hk]
  obtain ⟨inner, ho⟩ := Kd.R_own hR
  rcases ho.2 with ⟨h1, h2⟩ | ⟨b, cap, cur, h1, hbb, _⟩
  ·omega
  ·obtain ⟨rfl, -, rfl⟩ : A = some ⟨b, 0, none⟩ ∧ l.length = l.length ∧ c = cap := by injection h1 with e1 e2 e3; exact ⟨e1, rfl, e3⟩
   clear ho h1 hR
   have HS := Aside0.mk (Part.start hk)
   obtain ⟨k0, hk0⟩ : ∃ k0, l.findIdx p = k0 := ⟨_, rfl⟩
   rw [hk0] at hix hk HS
   clear hk0
   rw [hix] at HIF
   clear hix
   have BB := Aside0.mk hbb
   clear hbb
   have hne1 : ((k0 : Int) == -1) = false := beq_eq_false_iff_ne.2 (by omega)
   go_enter Try.func43, Try.ntmps43
   go_wp2_with (go_at_call 50; refine (HIF.out).mono ?_; rintro e w1 ⟨rfl, hb⟩; have n0_ := Aside0.mk (Kd.R_below HR.out hb); have n1_ := Aside0.mk (below_step HB.out hb); have n2_ := Aside0.mk (ob_below (ob_refl _ _) hb : OldBut w (.slice (some ⟨b, 0, none⟩) l.length c) w1); clear HR; clear HB; have HR := n0_; have HB := n1_; have HO := n2_; clear n0_ n1_ n2_; clear hb)
   go_loopg [5, 6, 7] l.length (fun gg s5 s6 _ wr => ∃ (i j : Nat) (zs : List ByteArray), s5 = .int .i64 i ∧ s6 = .int .i64 j ∧ j ≤ l.length ∧ l.length - j ≤ gg ∧ Aside0 (Part p l zs i j) ∧ Aside0 (Kd.R Kd.string 9 wr w0.heap.size (fun _ => True) (.slice (some ⟨b, 0, none⟩) l.length c) zs) ∧ Aside0 (Below w0.heap.size w0 wr) ∧ Aside0 (OldBut w (.slice (some ⟨b, 0, none⟩) l.length c) wr))
   case atStart => exact ⟨k0, k0 + 1, l, rfl, by go_num, by omega, by omega, HS, ⟨by (with_reducible repeat (first | apply Kd.R_alloc | apply Kd.R_drewN | apply Kd.R_drew)); exact HR.out⟩, ⟨by repeat (first | exact HB.out | apply pw_below_drewN | apply below_drew1)⟩, ⟨by repeat (first | exact HO.out | apply ob_drewN | apply ob_drew)⟩⟩
   case round =>
    clear HR HB HO HS
    obtain ⟨i, j, zs, rfl, rfl, hjd, hgg, HS, HR, HB, HO⟩ := hrel
    have hij := HS.out.lt
    by_cases hlt : j < l.length
    ·have hltz : (j : Int) < (l.length : Int) := by omega
     obtain ⟨cj, fj⟩ := Kd.R_celln ByteArray.empty HR.out (j : Int) (by omega) hltz
     rw [Int.toNat_natCast, HS.out.get hlt] at cj
     rw [Int.toNat_natCast] at fj
     obtain ⟨y, hy⟩ : ∃ y : ByteArray, l[j] = y := ⟨_, rfl⟩
     have hmem : y ∈ l := hy ▸ List.getElem_mem hlt
     rw [hy] at cj
     have HY := Aside0.mk (List.getElem?_eq_some_iff.2 ⟨hlt, hy⟩)
     clear hy
     have hcall := fun W => HP.out y W hmem
     have HL := Aside0.mk hlt
     clear hmem
     cases hq : p y with
     | false =>
      rw [hq] at hcall
      have HQ := Aside0.mk hq
      clear hq
      go_wp2_with fail
      refine (hcall _ (by repeat (first | exact HB.out | apply pw_below_drewN | apply below_drew1)) (by repeat (first | exact HO.out | apply ob_drewN | apply ob_drew))).mono ?_
      rintro e w' ⟨rfl, hb'⟩
      have n0_ := Aside0.mk (Kd.R_below (by (with_reducible repeat (first | apply Kd.R_alloc | apply Kd.R_drewN | apply Kd.R_drew)); exact HR.out) hb')
      have n1_ := Aside0.mk (below_step (by repeat (first | exact HB.out | apply pw_below_drewN | apply below_drew1)) hb')
      have n2_ := Aside0.mk (ob_below (by repeat (first | exact HO.out | apply ob_drewN | apply ob_drew)) hb')
      clear HR HB HO cj fj hb'
      have HR := n0_
      have HB := n1_
      have HO := n2_
      clear n0_ n1_ n2_
      obtain ⟨ci, fi⟩ := Kd.R_celln ByteArray.empty HR.out (i : Int) (by omega) (by omega)
      rw [Int.toNat_natCast] at ci fi
      go_wp2
      go_roundg (l.length - (j + 1))
      case measure => omega
      case rel =>
       refine ⟨i + 1, j + 1, zs.set i y, by go_num, by go_num, by omega, Nat.le_refl _, ⟨?_⟩, ⟨?_⟩, ⟨?_⟩, ⟨?_⟩⟩
       ·have := HS.out.keep HL.out (by rw [(List.getElem?_eq_some_iff.1 HY.out).2]; exact HQ.out)
        rwa [(List.getElem?_eq_some_iff.1 HY.out).2] at this
       ·(with_reducible repeat (first | apply Kd.R_alloc | apply Kd.R_drewN | apply Kd.R_drew))
        have hr_ := Kd.R_putn HR.out (i : Int) y
        rw [Int.toNat_natCast] at hr_
        exact hr_
       ·repeat (first | exact HB.out | apply pw_below_drewN | apply below_drew1 | refine Below.setCell ?_ (p := ⟨b, i, none⟩) BB.out _)
       ·repeat (first | exact HO.out | apply ob_drewN | apply ob_drew | refine ob_set ?_ _ _)
     | true =>
      rw [hq] at hcall
      have HQ := Aside0.mk hq
      clear hq
      go_wp2_with fail
      refine (hcall _ (by repeat (first | exact HB.out | apply pw_below_drewN | apply below_drew1)) (by repeat (first | exact HO.out | apply ob_drewN | apply ob_drew))).mono ?_
      rintro e w' ⟨rfl, hb'⟩
      have n0_ := Aside0.mk (Kd.R_below (by (with_reducible repeat (first | apply Kd.R_alloc | apply Kd.R_drewN | apply Kd.R_drew)); exact HR.out) hb')
      have n1_ := Aside0.mk (below_step (by repeat (first | exact HB.out | apply pw_below_drewN | apply below_drew1)) hb')
      have n2_ := Aside0.mk (ob_below (by repeat (first | exact HO.out | apply ob_drewN | apply ob_drew)) hb')
      clear HR HB HO cj fj hb'
      have HR := n0_
      have HB := n1_
      have HO := n2_
      clear n0_ n1_ n2_
      go_wp2
      go_roundg (l.length - (j + 1))
      case measure => omega
      case rel =>
       refine ⟨i, j + 1, zs, rfl, by go_num, by omega, Nat.le_refl _, ⟨HS.out.skip HL.out (by rw [(List.getElem?_eq_some_iff.1 HY.out).2]; exact HQ.out)⟩, ⟨?_⟩, ⟨?_⟩, ⟨?_⟩⟩
       ·(with_reducible repeat (first | apply Kd.R_alloc | apply Kd.R_drewN | apply Kd.R_drew)); exact HR.out
       ·repeat (first | exact HB.out | apply pw_below_drewN | apply below_drew1)
       ·repeat (first | exact HO.out | apply ob_drewN | apply ob_drew)
    ·obtain rfl : j = l.length := by omega
     have hltz : ¬ (l.length : Int) < (l.length : Int) := by omega
     have hcl : ∀ ty, (Builtin.clear_ #[35] ty #[.slice (some ⟨b, i, none⟩) (l.length - i) (c - i)]).run Try.prog wr = .ok (.tuple #[]) (wr.setCells b i (List.replicate (l.length - i) (.string ⟨#[]⟩))) :=
      fun ty => Lib.run_clear_slice wr _ _ ty _ Try.underlying35 str_zero rfl rfl b i _ _ (by omega)
       (fun t ht => by
        have := (Kd.R_celln ByteArray.empty HR.out ((i + t : Nat) : Int) (by omega) (by omega)).1
        rw [Int.toNat_natCast] at this
        rw [this]; rfl)
       (fun t ht => by
        have := (Kd.R_celln ByteArray.empty HR.out ((i + t : Nat) : Int) (by omega) (by omega)).2
        rw [Int.toNat_natCast] at this
        exact this)
     go_wp2
     go_ret
     obtain ⟨zs', h1, h2, h3⟩ := R_clear ⟨#[]⟩ (l.length - i) i wr zs (by rw [HS.out.len]; omega) HR.out
     refine ⟨_, rfl, ?_, ?_⟩
     ·have h4 := Kd.R_take h1 (m := i) (by rw [h2, HS.out.len]; omega)
      rw [h3, HS.out.all] at h4
      (with_reducible repeat (first | apply Kd.R_alloc | apply Kd.R_drewN | apply Kd.R_drew))
      exact h4
     ·repeat (first | exact below_sets BB.out _ _ _ HB.out | apply pw_below_drewN | apply below_drew1)
 ·have hix : idxP p l = -1 := by unfold idxP; rw [if_neg hk]
  have hall : l.filter (fun x => !p x) = l := List.filter_eq_self.2 (fun x hx => by
   have h1 : l.findIdx p = l.length := by
    have := List.findIdx_le_length (p := p) (xs := l)
    omega
   have := List.findIdx_eq_length.1 h1 x hx
   simp [this])
  rw [hix] at HIF
  rw [hall]
  clear hix hall hk hR
  go_enter Try.func43, Try.ntmps43
  go_wp2_with (go_at_call 50; refine (HIF.out).mono ?_; rintro e w1 ⟨rfl, hb⟩; have n0_ := Aside0.mk (Kd.R_below HR.out hb); have n1_ := Aside0.mk (below_step HB.out hb); clear HR; clear HB; have HR := n0_; have HB := n1_; clear n0_ n1_; clear hb)
  go_ret
  exact ⟨_, rfl, by (with_reducible repeat (first | apply Kd.R_alloc | apply Kd.R_drewN | apply Kd.R_drew)); exact HR.out, by repeat (first | exact HB.out | apply pw_below_drewN | apply below_drew1)⟩
/-! ### impl.Bolts.states: its closure -/
theorem states_pred (g : Nat) (A0_0 : Option Addr) (c0_0 : Nat) (l0_0 : List Int) (A0_1 : Option Addr) (c0_1 : Nat) (l0_1 : List S56) (a1 : ByteArray) (b : Bool) (w : World) (hg : w.heap[g]? = some (.cells #[.slice A0_0 l0_0.length c0_0, .slice A0_1 l0_1.length c0_1] 31 (0, 0)))
  (hr0_0 : Kd.C (Kd.int .i64) w A0_0 l0_0.length l0_0) (hc0_0 : l0_0.length ≤ c0_0) (hr0_1 : Kd.C k56 w A0_1 l0_1.length l0_1) (hc0_1 : l0_1.length ≤ c0_1) (h : impl_Bolts_allowed.f l0_0 l0_1 a1 = some b) :
  Calls Try.prog 44 #[.string a1, .pointer (some ⟨g, 0, none⟩)] w fun e w' => e = .returned (.bool (!b)) ∧ Below w.heap.size w w' := by
 have hu31 := Try.underlying31
 have HR0_0 := Aside0.mk hr0_0
 have HC0_0 := Aside0.mk hc0_0
 have HR0_1 := Aside0.mk hr0_1
 have HC0_1 := Aside0.mk hc0_1
 have BKG := Aside0.mk hg
 have HV := Aside0.mk h
 clear hr0_0 hc0_0 hr0_1 hc0_1 hg h
 have HB := Aside0.mk (Below.refl w.heap.size w)
 have hcg0 : w.cell? ⟨g, 0, none⟩ = some (.slice A0_0 l0_0.length c0_0) := (blk_cell BKG.out 0).trans rfl
 have hcg1 : w.cell? ⟨g, 1, none⟩ = some (.slice A0_1 l0_1.length c0_1) := (blk_cell BKG.out 1).trans rfl
 have hfg0 := blk_frozen BKG.out 0
 have hfg1 := blk_frozen BKG.out 1
 go_enter Try.func44, Try.ntmps44
 go_wp2_with (go_at_call 45; refine (impl_Bolts_allowed.calls A0_0 c0_0 l0_0 A0_1 c0_1 l0_1 a1 b _ (Kd.C_below HR0_0.out (by repeat (first | exact HB.out | apply below_alloc | apply pw_below_drewN | apply below_drew1 | exact Below.refl _ _))) HC0_0.out (Kd.C_below HR0_1.out (by repeat (first | exact HB.out | apply below_alloc | apply pw_below_drewN | apply below_drew1 | exact Below.refl _ _))) HC0_1.out HV.out).mono ?_; rintro e w6 ⟨rfl, hb6⟩)
 go_ret
 exact ⟨by first | rfl | (simp; done), by repeat (first | exact below_step (by repeat (first | exact HB.out | apply below_alloc | apply pw_below_drewN | apply below_drew1 | exact Below.refl _ _)) hb6 | apply pw_below_drewN | apply below_drew1)⟩
/-! ### (Bolts).states: the list before slices.DeleteFunc (numbers of types and functions as in the seat of round ra) -/
mutual
def impl_Bolts_states_c.l0 : Nat → List ByteArray → List Int → Int → Int → Option (List ByteArray)
 | 0, _, _, _, _ => none
 | k + 1, x3, x12, x13, x14 => if x14 < x13 then (if 0 ≤ x14 then (if x14 < (x12.length : Int) then (impl_Bolts_states_c.l1 k (rd x12 x14) ([] : List ByteArray) x12 x13 x14 x3 (x3.length : Int) 0) else (none)) else (none)) else (some x3)
def impl_Bolts_states_c.l1 : Nat → Int → List ByteArray → List Int → Int → Int → List ByteArray → Int → Int → Option (List ByteArray)
 | 0, _, _, _, _, _, _, _, _ => none
 | k + 1, x5, x6, x12, x13, x14, x18, x19, x20 => if x20 < x19 then (if 0 ≤ x20 then (if x20 < (x18.length : Int) then (impl_Bolts_states_c.l2 k x5 x6 (rdOf ByteArray.empty x18 x20) x12 x13 x14 x18 x19 x20 x5 0) else (none)) else (none)) else (impl_Bolts_states_c.l0 k x6 x12 x13 (wrap64 (x14 + 1)))
def impl_Bolts_states_c.l2 : Nat → Int → List ByteArray → ByteArray → List Int → Int → Int → List ByteArray → Int → Int → Int → Int → Option (List ByteArray)
 | 0, _, _, _, _, _, _, _, _, _, _, _ => none
 | k + 1, x5, x6, x8, x12, x13, x14, x18, x19, x20, x24, x25 => if x25 < x24 then ((some (([(48 + ((x25) % 256)) % 256] : List Int) : List Int)).bind fun y190 => (if x8.size + (strOfNums y190).size ≤ 9223372036854775807 then (if x6.length < 8796093022208 then (impl_Bolts_states_c.l2 k x5 (x6 ++ [x8 ++ (strOfNums y190)]) x8 x12 x13 x14 x18 x19 x20 x24 (wrap64 (x25 + 1))) else (none)) else (none))) else (impl_Bolts_states_c.l1 k x5 x6 x12 x13 x14 x18 x19 (wrap64 (x20 + 1)))
end
def impl_Bolts_states_c.f (k : Nat) (l0_0 : List Int) (l0_1 : List (S56)) : Option (List ByteArray) := impl_Bolts_states_c.l0 k (([(⟨#[]⟩ : ByteArray)] : List ByteArray)) l0_0 (l0_0.length : Int) 0
theorem impl_Bolts_states_c.mono_l : ∀ k, (∀ y0 y1 y2 y3, LeO (impl_Bolts_states_c.l0 k y0 y1 y2 y3) (impl_Bolts_states_c.l0 (k + 1) y0 y1 y2 y3)) ∧ (∀ y0 y1 y2 y3 y4 y5 y6 y7, LeO (impl_Bolts_states_c.l1 k y0 y1 y2 y3 y4 y5 y6 y7) (impl_Bolts_states_c.l1 (k + 1) y0 y1 y2 y3 y4 y5 y6 y7)) ∧ (∀ y0 y1 y2 y3 y4 y5 y6 y7 y8 y9 y10, LeO (impl_Bolts_states_c.l2 k y0 y1 y2 y3 y4 y5 y6 y7 y8 y9 y10) (impl_Bolts_states_c.l2 (k + 1) y0 y1 y2 y3 y4 y5 y6 y7 y8 y9 y10))
 | 0 => ⟨fun _ _ _ _ r h => by simp [impl_Bolts_states_c.l0] at h, fun _ _ _ _ _ _ _ _ r h => by simp [impl_Bolts_states_c.l1] at h, fun _ _ _ _ _ _ _ _ _ _ _ r h => by simp [impl_Bolts_states_c.l2] at h⟩
 | k + 1 => by
  obtain ⟨ih0, ih1, ih2⟩ := impl_Bolts_states_c.mono_l k
  refine ⟨?_, ?_, ?_⟩
  ·intro y0 y1 y2 y3
   unfold impl_Bolts_states_c.l0
   repeat' first
   | (with_reducible exact ih0 _ _ _ _)
   | (with_reducible exact ih1 _ _ _ _ _ _ _ _)
   | (with_reducible exact ih2 _ _ _ _ _ _ _ _ _ _ _)
   | (with_reducible exact LeO.refl _)
   | (with_reducible exact LeO.none _)
   | (with_reducible refine LeO.ite ?_ ?_)
   | (with_reducible refine LeO.bind ?_ (fun _ => ?_))
   | exact ih0 _ _ _ _
   | exact ih1 _ _ _ _ _ _ _ _
   | exact ih2 _ _ _ _ _ _ _ _ _ _ _
   | exact LeO.none _
   | refine LeO.ite ?_ ?_
   | refine LeO.bind ?_ (fun _ => ?_)
  ·intro y0 y1 y2 y3 y4 y5 y6 y7
   unfold impl_Bolts_states_c.l1
   repeat' first
   | (with_reducible exact ih0 _ _ _ _)
   | (with_reducible exact ih1 _ _ _ _ _ _ _ _)
   | (with_reducible exact ih2 _ _ _ _ _ _ _ _ _ _ _)
   | (with_reducible exact LeO.refl _)
   | (with_reducible exact LeO.none _)
   | (with_reducible refine LeO.ite ?_ ?_)
   | (with_reducible refine LeO.bind ?_ (fun _ => ?_))
   | exact ih0 _ _ _ _
   | exact ih1 _ _ _ _ _ _ _ _
   | exact ih2 _ _ _ _ _ _ _ _ _ _ _
   | exact LeO.none _
   | refine LeO.ite ?_ ?_
   | refine LeO.bind ?_ (fun _ => ?_)
  ·intro y0 y1 y2 y3 y4 y5 y6 y7 y8 y9 y10
   unfold impl_Bolts_states_c.l2
   repeat' first
   | (with_reducible exact ih0 _ _ _ _)
   | (with_reducible exact ih1 _ _ _ _ _ _ _ _)
   | (with_reducible exact ih2 _ _ _ _ _ _ _ _ _ _ _)
   | (with_reducible exact LeO.refl _)
   | (with_reducible exact LeO.none _)
   | (with_reducible refine LeO.ite ?_ ?_)
   | (with_reducible refine LeO.bind ?_ (fun _ => ?_))
   | exact ih0 _ _ _ _
   | exact ih1 _ _ _ _ _ _ _ _
   | exact ih2 _ _ _ _ _ _ _ _ _ _ _
   | exact LeO.none _
   | refine LeO.ite ?_ ?_
   | refine LeO.bind ?_ (fun _ => ?_)
theorem impl_Bolts_states_c.mono : ∀ a0 a1 k, LeO (impl_Bolts_states_c.f k a0 a1) (impl_Bolts_states_c.f (k + 1) a0 a1) := by
 intro a0 a1 k
 obtain ⟨ih0, ih1, ih2⟩ := impl_Bolts_states_c.mono_l k
 unfold impl_Bolts_states_c.f
 repeat' first
   | (with_reducible exact ih0 _ _ _ _)
   | (with_reducible exact ih1 _ _ _ _ _ _ _ _)
   | (with_reducible exact ih2 _ _ _ _ _ _ _ _ _ _ _)
   | (with_reducible exact LeO.refl _)
   | (with_reducible exact LeO.none _)
   | (with_reducible refine LeO.ite ?_ ?_)
   | (with_reducible refine LeO.bind ?_ (fun _ => ?_))
   | exact ih0 _ _ _ _
   | exact ih1 _ _ _ _ _ _ _ _
   | exact ih2 _ _ _ _ _ _ _ _ _ _ _
   | exact LeO.none _
   | refine LeO.ite ?_ ?_
   | refine LeO.bind ?_ (fun _ => ?_)
theorem impl_Bolts_states_c.calls (k : Nat) (A0_0 : Option Addr) (c0_0 : Nat) (l0_0 : List Int) (A0_1 : Option Addr) (c0_1 : Nat) (l0_1 : List (S56)) (r : List ByteArray) (w : World) (hr0_0 : Kd.C (Kd.int .i64) w A0_0 l0_0.length l0_0) (hc0_0 : l0_0.length ≤ c0_0) (hr0_1 : Kd.C k56 w A0_1 l0_1.length l0_1) (hc0_1 : l0_1.length ≤ c0_1) (h : impl_Bolts_states_c.f k l0_0 l0_1 = some r) (ha : (r.all fun s => (impl_Bolts_allowed.f l0_0 l0_1 s).isSome) = true) :
  Calls Try.prog 23 #[.agg #[.slice A0_0 l0_0.length c0_0, .slice A0_1 l0_1.length c0_1]] w fun e w' => ∃ v0_ : Value, e = .returned (v0_) ∧ Kd.R Kd.string 9 w' w.heap.size (fun _ => True) v0_ (r.filter fun s => (impl_Bolts_allowed.f l0_0 l0_1 s).getD false) ∧ Below w.heap.size w w' := by
 have hu31 := Try.underlying31
 have HR0_0 := Aside0.mk hr0_0
 have HC0_0 := Aside0.mk hc0_0
 clear hr0_0 hc0_0
 have HR0_1 := Aside0.mk hr0_1
 have HC0_1 := Aside0.mk hc0_1
 clear hr0_1 hc0_1
 have HB := Aside0.mk (Below.refl w.heap.size w)
 unfold impl_Bolts_states_c.f at h
 have H := h
 clear h
 have HAL := Aside0.mk ha
 clear ha
 have eg44 : ∀ args w, (callFunc 44 args).run Try.prog w = .ok (.enter 44 args) w := by
  intro args w
  exact enters_of Try.func44 (by decide) rfl args w
 have EG44 := Aside0.mk eg44
 clear eg44
 obtain ⟨y185, hy185⟩ : ∃ y_ : List ByteArray, y_ = (([(⟨#[]⟩ : ByteArray)] : List ByteArray)) := ⟨_, rfl⟩
 replace H : (impl_Bolts_states_c.l0 k y185 l0_0 (l0_0.length : Int) 0) = some r := by first | (rw [hy185]; with_reducible exact H) | (have H2_ := (Option.bind_some _ _).symm.trans H; rw [hy185]; with_reducible exact H2_) | (have H2_ := (Option.bind_some _ _).symm.trans H; with_reducible exact H2_) | with_reducible exact H | (rw [hy185]; exact H) | exact H
 have Ny185 := Aside0.mk hy185
 clear hy185
 have H' := Aside0.mk H
 clear H
 go_enter Try.func23, Try.ntmps23
 go_wp2_with (first | ((with_reducible refine gate_dst (N := 1) rfl ?_); refine box_event ?hg (N := 1) ?hd (cs := #[.slice A0_0 l0_0.length c0_0, .slice A0_1 l0_1.length c0_1]) (t := 31) ?hr ?_; (case hd => rfl); (case hg => rfl); (case hr => first | (go_simp; done) | (go_simp; rfl)); intro gb184 hg w2 hbox hb; have n0_ := Aside0.mk (below_step (by repeat (first | (with_reducible first | exact HB.out | apply below_alloc | apply pw_below_drewN | apply below_drew1) | exact HB.out)) hb); have n1_ := Aside0.mk (hbox); have n2_ := Aside0.mk ((by rw [hg]; exact (below_size (by repeat (first | (with_reducible first | exact HB.out | apply below_alloc | apply pw_below_drewN | apply below_drew1) | exact HB.out))) : w.heap.size ≤ gb184)); have n3_ := Aside0.mk ((by rw [hg]; exact (below_size (by repeat (first | (with_reducible first | exact HB.out | apply below_alloc | apply pw_below_drewN | apply below_drew1) | exact HB.out))) : w.heap.size ≤ gb184)); clear HB; have HB := n0_; have BK184 := n1_; have GW184 := n2_; have GE184 := n3_; clear n0_ n1_ n2_ n3_; clear hb hbox hg) | ((with_reducible refine gate_dst (N := 10) rfl ?_); refine Kd.R_lit Kd.string _ 9 ?hg (N := 10) ?hd (xs := ([(⟨#[]⟩ : ByteArray)] : List ByteArray)) (inner := [.string (⟨#[]⟩ : ByteArray)]) (ok := fun _ => True) (okp := fun _ => True) ?hr ?hp (fun _ hk => hk) trivial (Below.refl _ _) (Nat.le_refl _) (by simp) ?_; (case hd => rfl); (case hg => rfl); (case hr => first | (go_simp; done) | (go_simp; rfl)); (case hp => exact (Reps.one (show Kd.M Kd.string _ _ _ (⟨#[]⟩ : ByteArray) [.string (⟨#[]⟩ : ByteArray)] from rfl) (Reps.none _ _))); intro v186 w3 ho4 hb hg_ hnew_; clear hg_ hnew_; (first | rw [← Ny185.out] at ho4 | (simp only [Int.reduceToNat] at ho4; rw [← Ny185.out] at ho4)); have n0_ := Aside0.mk (Kd.R_lower ho4 (below_size (by repeat (first | (with_reducible first | exact HB.out | apply below_alloc | apply pw_below_drewN | apply below_drew1 | refine below_set ?_ GE184.out) | exact HB.out)))); have n1_ := Aside0.mk (blk_below (g := gb184) (o := .cells #[.slice A0_0 l0_0.length c0_0, .slice A0_1 l0_1.length c0_1] 31 (0, 0)) (by (with_reducible repeat (first | refine blk_drewN ?_ _ | refine blk_drew ?_ | refine blk_alloc ?_ _)); exact BK184.out) hb); have n2_ := Aside0.mk (below_step (by repeat (first | (with_reducible first | exact HB.out | apply below_alloc | apply pw_below_drewN | apply below_drew1 | refine below_set ?_ GE184.out) | exact HB.out)) hb); clear BK184; clear HB; have HO187 := n0_; have BK184 := n1_; have HB := n2_; clear n0_ n1_ n2_; clear hb ho4; have hcz5_0 : w3.cell? ⟨gb184, 0, none⟩ = some (.slice A0_0 l0_0.length c0_0) := (blk_cell BK184.out 0).trans rfl; have hcz5_1 : w3.cell? ⟨gb184, 1, none⟩ = some (.slice A0_1 l0_1.length c0_1) := (blk_cell BK184.out 1).trans rfl; have hfz5_0 := blk_frozen BK184.out 0; have hfz5_1 := blk_frozen BK184.out 1))
 go_loopg [3, 14] k (fun kq v3 v14 w' => ∃ (x3_1 : List ByteArray) (x14_1 : Int), v14 = .int .i64 x14_1 ∧ Aside0 (impl_Bolts_states_c.l0 kq x3_1 l0_0 (l0_0.length : Int) x14_1 = some r) ∧ Aside0 (kq ≤ k) ∧ Aside0 (Kd.R Kd.string 9 w' w.heap.size (fun _ => True) v3 x3_1) ∧ Aside0 (w'.heap[gb184]? = some (.cells #[(.slice A0_0 l0_0.length c0_0), (.slice A0_1 l0_1.length c0_1)] 31 (0, 0))) ∧ Aside0 (Below w.heap.size w w'))
 case atStart => exact ⟨(y185), (0), (by first | rfl | (simp; done) | (simp [*]; done)), H', ⟨Nat.le_refl _⟩, ⟨by (with_reducible repeat (first | apply Kd.R_alloc | apply Kd.R_drewN | apply Kd.R_drew)); exact HO187.out⟩, ⟨by (with_reducible repeat (first | refine blk_drewN ?_ _ | refine blk_drew ?_ | refine blk_alloc ?_ _)); exact BK184.out⟩, ⟨by repeat (first | (with_reducible first | exact HB.out | apply below_alloc | apply pw_below_drewN | apply below_drew1 | refine below_set ?_ GE184.out) | exact HB.out)⟩⟩
 case round =>
  clear H'
  try clear c2
  try clear p2
  try clear hcz5_0
  try clear hcz5_1
  try clear hfz5_0
  try clear hfz5_1
  obtain ⟨x3_1, x14_1, rfl, HA, HK1, HO_3, BK184, HB⟩ := hrel
  cases gk with
  | zero => exact absurd HA.out (by simp [impl_Bolts_states_c.l0])
  | succ k1 =>
   have H := HA.out
   clear HA
   simp only [impl_Bolts_states_c.l0] at H
   by_cases c6 : x14_1 < (l0_0.length : Int)
   ·rw [if_pos c6] at H
    have c6b0 : decide (x14_1 < (l0_0.length : Int)) = true := decide_eq_true c6
    clear c6
    by_cases c7 : 0 ≤ x14_1
    ·rw [if_pos c7] at H
     have c7b0 : decide (0 ≤ x14_1) = true := decide_eq_true c7
     clear c7
     by_cases c8 : x14_1 < (l0_0.length : Int)
     ·rw [if_pos c8] at H
      have c8b0 : decide (x14_1 < (l0_0.length : Int)) = true := decide_eq_true c8
      clear c8
      have H' := Aside0.mk H
      clear H
      have p188 : 0 ≤ (x14_1 : Int) := of_decide_eq_true (by first | (with_reducible assumption) | assumption)
      have q188 : x14_1 < (l0_0.length : Int) := of_decide_eq_true (by first | (with_reducible assumption) | assumption)
      obtain ⟨ad188, e188, hx188_0⟩ := Kd.at_int HR0_0.out x14_1 p188 q188
      cases e188
      replace hx188_0 := (HB.out.cell (World.block_lt_of_cell? w _ hx188_0)).trans hx188_0
      replace p188 := eq_true p188
      replace q188 := eq_true q188
      obtain ⟨Ao9, co9, eo9⟩ := Kd.R_slice HO_3.out
      subst eo9
      go_wp2
      go_loopg [6, 20] k1 (fun kq v6 v20 w' => ∃ (x6_2 : List ByteArray) (x20_2 : Int), v20 = .int .i64 x20_2 ∧ Aside0 (impl_Bolts_states_c.l1 kq (rd l0_0 x14_1) x6_2 l0_0 (l0_0.length : Int) x14_1 x3_1 (x3_1.length : Int) x20_2 = some r) ∧ Aside0 (kq ≤ k1) ∧ Aside0 (Kd.R Kd.string 9 w' w.heap.size (fun k_ => some k_ ≠ ((.slice Ao9 x3_1.length co9) : Value).ownBlock) v6 x6_2) ∧ Aside0 (Kd.R Kd.string 9 w' w.heap.size (fun k_ => some k_ ≠ (v6 : Value).ownBlock) (.slice Ao9 x3_1.length co9) x3_1) ∧ Aside0 (w'.heap[gb184]? = some (.cells #[(.slice (some ad188) l0_0.length c0_0), (.slice A0_1 l0_1.length c0_1)] 31 (0, 0))) ∧ Aside0 (Below w.heap.size w w'))
      case atStart => exact ⟨(([] : List ByteArray)), (0), (by first | rfl | (simp; done) | (simp [*]; done)), H', ⟨Nat.le_refl _⟩, ⟨by first | exact Kd.R_nil _ _ _ _ _ | exact Kd.N_nil _ _ _ _ _ | exact Kd.V_nil _ _ _ _ _ | exact Kd.Q_nil _ _ _ _ _ | exact Kd.S_nil _ _ _ _ _⟩, ⟨by (with_reducible repeat (first | apply Kd.R_alloc | apply Kd.R_drewN | apply Kd.R_drew)); exact Kd.R_mono HO_3.out (fun _ hk => (by simp [Value.ownBlock]))⟩, ⟨by (with_reducible repeat (first | refine blk_drewN ?_ _ | refine blk_drew ?_ | refine blk_alloc ?_ _)); exact BK184.out⟩, ⟨by repeat (first | (with_reducible first | exact HB.out | apply below_alloc | apply pw_below_drewN | apply below_drew1 | refine below_set ?_ GE184.out) | exact HB.out)⟩⟩
      case round =>
       clear H'
       try clear p1
       try clear q1
       try clear hx1
       try clear c2
       try clear p2
       try clear c6
       try clear c6b0
       try clear c7
       try clear c7b0
       try clear c8
       try clear c8b0
       try clear hcz5_0
       try clear hcz5_1
       try clear hfz5_0
       try clear hfz5_1
       try clear hx188_0
       try clear p188
       try clear p2
       try clear q188
       obtain ⟨x6_2, x20_2, rfl, HA, HK2, HO_6, HO_18, BK184, HB⟩ := hrel
       cases gk with
       | zero => exact absurd HA.out (by simp [impl_Bolts_states_c.l1])
       | succ k2 =>
        have H := HA.out
        clear HA
        simp only [impl_Bolts_states_c.l1] at H
        by_cases c10 : x20_2 < (x3_1.length : Int)
        ·rw [if_pos c10] at H
         have c10b0 : decide (x20_2 < (x3_1.length : Int)) = true := decide_eq_true c10
         clear c10
         by_cases c11 : 0 ≤ x20_2
         ·rw [if_pos c11] at H
          have c11b0 : decide (0 ≤ x20_2) = true := decide_eq_true c11
          clear c11
          by_cases c12 : x20_2 < (x3_1.length : Int)
          ·rw [if_pos c12] at H
           have c12b0 : decide (x20_2 < (x3_1.length : Int)) = true := decide_eq_true c12
           clear c12
           have H' := Aside0.mk H
           clear H
           have p189 : 0 ≤ (x20_2 : Int) := of_decide_eq_true (by first | (with_reducible assumption) | assumption)
           have q189 : x20_2 < (x3_1.length : Int) := of_decide_eq_true (by first | (with_reducible assumption) | assumption)
           obtain ⟨ad189, e189, hx189_0⟩ := Kd.at_string (Kd.R_reads' HO_18.out).2.2 x20_2 p189 q189
           cases e189
           replace p189 := eq_true p189
           replace q189 := eq_true q189
           go_wp2
           go_loopg [6, 25] k2 (fun kq v6 v25 w' => ∃ (x6_3 : List ByteArray) (x25_3 : Int), v25 = .int .i64 x25_3 ∧ Aside0 (impl_Bolts_states_c.l2 kq (rd l0_0 x14_1) x6_3 (rdOf ByteArray.empty x3_1 x20_2) l0_0 (l0_0.length : Int) x14_1 x3_1 (x3_1.length : Int) x20_2 (rd l0_0 x14_1) x25_3 = some r) ∧ Aside0 (kq ≤ k2) ∧ Aside0 (Kd.R Kd.string 9 w' w.heap.size (fun k_ => some k_ ≠ ((.slice (some ad189) x3_1.length co9) : Value).ownBlock) v6 x6_3) ∧ Aside0 (Kd.R Kd.string 9 w' w.heap.size (fun k_ => some k_ ≠ (v6 : Value).ownBlock) (.slice (some ad189) x3_1.length co9) x3_1) ∧ Aside0 (w'.heap[gb184]? = some (.cells #[(.slice (some ad188) l0_0.length c0_0), (.slice A0_1 l0_1.length c0_1)] 31 (0, 0))) ∧ Aside0 (Below w.heap.size w w'))
           case atStart => exact ⟨(x6_2), (0), (by first | rfl | (simp; done) | (simp [*]; done)), H', ⟨Nat.le_refl _⟩, ⟨by (with_reducible repeat (first | apply Kd.R_alloc | apply Kd.R_drewN | apply Kd.R_drew)); exact HO_6.out⟩, ⟨by (with_reducible repeat (first | apply Kd.R_alloc | apply Kd.R_drewN | apply Kd.R_drew)); exact HO_18.out⟩, ⟨by (with_reducible repeat (first | refine blk_drewN ?_ _ | refine blk_drew ?_ | refine blk_alloc ?_ _)); exact BK184.out⟩, ⟨by repeat (first | (with_reducible first | exact HB.out | apply below_alloc | apply pw_below_drewN | apply below_drew1 | refine below_set ?_ GE184.out) | exact HB.out)⟩⟩
           case round =>
            clear H'
            try clear c1
            try clear p1
            try clear q1
            try clear hx1
            try clear c2
            try clear p2
            try clear c6
            try clear c6b0
            try clear c7
            try clear c7b0
            try clear c8
            try clear c8b0
            try clear c10
            try clear c10b0
            try clear c11
            try clear c11b0
            try clear c12
            try clear c12b0
            try clear hcz5_0
            try clear hcz5_1
            try clear hfz5_0
            try clear hfz5_1
            try clear hx188_0
            try clear hx189_0
            try clear p1
            try clear p188
            try clear p189
            try clear p2
            try clear q1
            try clear q188
            try clear q189
            obtain ⟨x6_3, x25_3, rfl, HA, HK3, HO_6, HO_18, BK184, HB⟩ := hrel
            cases gk with
            | zero => exact absurd HA.out (by simp [impl_Bolts_states_c.l2])
            | succ k3 =>
             have H := HA.out
             clear HA
             simp only [impl_Bolts_states_c.l2] at H
             by_cases c13 : x25_3 < (rd l0_0 x14_1)
             ·rw [if_pos c13] at H
              have c13b0 : decide (x25_3 < (rd l0_0 x14_1)) = true := decide_eq_true c13
              clear c13
              obtain ⟨y190, hy190⟩ : ∃ y_ : List Int, y_ = (([(48 + ((x25_3) % 256)) % 256] : List Int)) := ⟨_, rfl⟩
              replace H : (if (rdOf ByteArray.empty x3_1 x20_2).size + (strOfNums y190).size ≤ 9223372036854775807 then (if x6_3.length < 8796093022208 then (impl_Bolts_states_c.l2 k3 (rd l0_0 x14_1) (x6_3 ++ [(rdOf ByteArray.empty x3_1 x20_2) ++ (strOfNums y190)]) (rdOf ByteArray.empty x3_1 x20_2) l0_0 (l0_0.length : Int) x14_1 x3_1 (x3_1.length : Int) x20_2 (rd l0_0 x14_1) (wrap64 (x25_3 + 1))) else (none)) else (none)) = some r := by first | (rw [hy190]; with_reducible exact H) | (have H2_ := (Option.bind_some _ _).symm.trans H; rw [hy190]; with_reducible exact H2_) | (have H2_ := (Option.bind_some _ _).symm.trans H; with_reducible exact H2_) | with_reducible exact H | (rw [hy190]; exact H) | exact H
              have Ny190 := Aside0.mk hy190
              clear hy190
              by_cases c14 : (rdOf ByteArray.empty x3_1 x20_2).size + (strOfNums y190).size ≤ 9223372036854775807
              ·rw [if_pos c14] at H
               have c14b0 := eq_true c14
               have c14b1 : decide ((rdOf ByteArray.empty x3_1 x20_2).size + (strOfNums y190).size ≤ 9223372036854775807) = true := decide_eq_true c14
               try have c14b2 : (9223372036854775807 < (rdOf ByteArray.empty x3_1 x20_2).size + (strOfNums y190).size) = False := eq_false (Nat.not_lt.2 c14)
               by_cases c15 : x6_3.length < 8796093022208
               ·rw [if_pos c15] at H
                have LMc15 := Aside0.mk c15
                clear c15
                obtain ⟨y193, hy193⟩ : ∃ y_ : List ByteArray, y_ = (x6_3 ++ [(rdOf ByteArray.empty x3_1 x20_2) ++ (strOfNums y190)]) := ⟨_, rfl⟩
                replace H : (impl_Bolts_states_c.l2 k3 (rd l0_0 x14_1) y193 (rdOf ByteArray.empty x3_1 x20_2) l0_0 (l0_0.length : Int) x14_1 x3_1 (x3_1.length : Int) x20_2 (rd l0_0 x14_1) (wrap64 (x25_3 + 1))) = some r := by first | (rw [hy193]; with_reducible exact H) | (have H2_ := (Option.bind_some _ _).symm.trans H; rw [hy193]; with_reducible exact H2_) | (have H2_ := (Option.bind_some _ _).symm.trans H; with_reducible exact H2_) | with_reducible exact H | (rw [hy193]; exact H) | exact H
                have Ny193 := Aside0.mk hy193
                clear hy193
                have H' := Aside0.mk H
                clear H
                go_wp2_with (first | ((with_reducible refine gate_dst (N := 33) rfl ?_); refine Kd.R_lit (Kd.int .u8) _ 5 ?hg (N := 33) ?hd (xs := ([(48 + ((x25_3) % 256)) % 256] : List Int)) (inner := [.int .u8 ((48 + ((x25_3) % 256)) % 256)]) (ok := fun _ => True) (okp := fun _ => True) ?hr ?hp (fun _ hk => hk) trivial (Below.refl _ _) (Nat.le_refl _) (by simp) ?_; (case hd => rfl); (case hg => rfl); (case hr => first | (go_simp; done) | (go_simp; rfl)); (case hp => exact (Reps.one (show Kd.M (Kd.int .u8) _ _ _ ((48 + ((x25_3) % 256)) % 256) [.int .u8 ((48 + ((x25_3) % 256)) % 256)] from rfl) (Reps.none _ _))); intro v191 w16 ho17 hb hg_ hnew_; clear hg_ hnew_; (first | rw [← Ny190.out] at ho17 | (simp only [Int.reduceToNat] at ho17; rw [← Ny190.out] at ho17)); have n0_ := Aside0.mk (Kd.R_below (by (with_reducible repeat (first | apply Kd.R_alloc | apply Kd.R_drewN | apply Kd.R_drew)); exact HO_6.out) hb); have n1_ := Aside0.mk (Kd.R_below (by (with_reducible repeat (first | apply Kd.R_alloc | apply Kd.R_drewN | apply Kd.R_drew)); exact HO_18.out) hb); have n2_ := Aside0.mk (Kd.R_lower ho17 (below_size (by repeat (first | (with_reducible first | exact HB.out | apply below_alloc | apply pw_below_drewN | apply below_drew1 | refine below_set ?_ GE184.out) | exact HB.out)))); have n3_ := Aside0.mk (blk_below (g := gb184) (o := .cells #[.slice (some ad188) l0_0.length c0_0, .slice A0_1 l0_1.length c0_1] 31 (0, 0)) (by (with_reducible repeat (first | refine blk_drewN ?_ _ | refine blk_drew ?_ | refine blk_alloc ?_ _)); exact BK184.out) hb); have n4_ := Aside0.mk (below_step (by repeat (first | (with_reducible first | exact HB.out | apply below_alloc | apply pw_below_drewN | apply below_drew1 | refine below_set ?_ GE184.out) | exact HB.out)) hb); clear HO_6; clear HO_18; clear BK184; clear HB; have HO_6 := n0_; have HO_18 := n1_; have HO192 := n2_; have BK184 := n3_; have HB := n4_; clear n0_ n1_ n2_ n3_ n4_; clear hb ho17; have hcv18 := own_string (P := Try.prog) Try.underlying67 Try.underlying5 Try.underlying9 (Kd.own_of_R HO192.out)) | ((with_reducible refine gate_builtin (b := .append) (xs := #[.tmp 28, .tmp 36]) rfl ?_); at_builtin; refine Kd.R_append Kd.string (w0 := w) w.heap.size rfl (.tmp 28) (.tmp 36) 35 9 (.string ⟨#[]⟩) 16 rfl Try.underlying35 info9 rfl (by decide) (by omega) u6 x6_3 ((rdOf ByteArray.empty x3_1 x20_2) ++ (strOfNums y190)) [.string ((rdOf ByteArray.empty x3_1 x20_2) ++ (strOfNums y190))] (fun k_ => some k_ ≠ (.slice (some ad189) x3_1.length co9 : Value).ownBlock) (fun _ => False) rfl rfl ?aP (fun _ hk => hk.elim) ?aF ?aO ?aB ?aS ?aL ?_; (case aP => exact rfl); (case aB => exact (by repeat (first | (with_reducible first | exact HB.out | apply below_alloc | apply pw_below_drewN | apply below_drew1 | refine below_set ?_ GE184.out) | exact HB.out))); (case aF => exact (fun k_ hk => Kd.fresh' (Kd.R_lt (by (with_reducible repeat (first | apply Kd.R_alloc | apply Kd.R_drewN | apply Kd.R_drew)); exact HO_18.out)) k_ hk)); (case aO => exact (by (with_reducible repeat (first | apply Kd.R_alloc | apply Kd.R_drewN | apply Kd.R_drew)); exact HO_6.out)); (case aS => exact (below_size (by repeat (first | (with_reducible first | exact HB.out | apply below_alloc | apply pw_below_drewN | apply below_drew1 | refine below_set ?_ GE184.out) | exact HB.out)))); (case aL => have := LMc15.out; omega); intro v194 w19 ho hb hg hat; rw [← Ny193.out] at ho; have n0_ := Aside0.mk (Kd.R_after (ok := (fun _ => True)) (by (with_reducible repeat (first | apply Kd.R_alloc | apply Kd.R_drewN | apply Kd.R_drew)); exact Kd.R_mono HO_18.out (fun _ hk => ⟨trivial, hk⟩)) hg hat); have n1_ := Aside0.mk (blk_grown (g := gb184) (o := .cells #[.slice (some ad188) l0_0.length c0_0, .slice A0_1 l0_1.length c0_1] 31 (0, 0)) (by (with_reducible repeat (first | refine blk_drewN ?_ _ | refine blk_drew ?_ | refine blk_alloc ?_ _)); exact BK184.out) hg (Kd.R_ne HO_6.out BK184.out (by decide))); have n2_ := Aside0.mk (Kd.R_over' (by (with_reducible repeat (first | apply Kd.R_alloc | apply Kd.R_drewN | apply Kd.R_drew)); exact HO192.out) (Kd.R_typed (by (with_reducible repeat (first | apply Kd.R_alloc | apply Kd.R_drewN | apply Kd.R_drew)); exact HO_6.out)) (by decide) hg); have n3_ := Aside0.mk (hb); have n4_ := Aside0.mk (ho); clear HO_18; clear BK184; clear HO192; clear HB; clear HO_6; have HO_18 := n0_; have BK184 := n1_; have HO192 := n2_; have HB := n3_; have HO195 := n4_; clear n0_ n1_ n2_ n3_ n4_; clear ho hb hg hat))
                go_roundg k3
                case measure => have := HK1.out; have := HK2.out; have := HK3.out; omega
                case rel => exact ⟨(y193), (wrap64 (x25_3 + 1)), (by first | rfl | (simp; done) | (simp [*]; done)), H', ⟨by have := HK1.out; have := HK2.out; have := HK3.out; omega⟩, ⟨by (with_reducible repeat (first | apply Kd.R_alloc | apply Kd.R_drewN | apply Kd.R_drew)); exact HO195.out⟩, ⟨by (with_reducible repeat (first | apply Kd.R_alloc | apply Kd.R_drewN | apply Kd.R_drew)); exact Kd.R_mono HO_18.out (fun _ hk => hk.2)⟩, ⟨by (with_reducible repeat (first | refine blk_drewN ?_ _ | refine blk_drew ?_ | refine blk_alloc ?_ _)); exact BK184.out⟩, ⟨by repeat (first | (with_reducible first | exact HB.out | apply below_alloc | apply pw_below_drewN | apply below_drew1 | refine below_set ?_ GE184.out) | exact HB.out)⟩⟩
               ·rw [if_neg c15] at H
                exact absurd H (by simp)
              ·rw [if_neg c14] at H
               exact absurd H (by simp)
             ·rw [if_neg c13] at H
              have c13b0 : decide (x25_3 < (rd l0_0 x14_1)) = false := decide_eq_false c13
              clear c13
              have H' := Aside0.mk H
              clear H
              go_wp2
              go_roundg k3
              case measure => have := HK1.out; have := HK2.out; have := HK3.out; omega
              case rel => exact ⟨(x6_3), (wrap64 (x20_2 + 1)), (by first | rfl | (simp; done) | (simp [*]; done)), H', ⟨by have := HK1.out; have := HK2.out; have := HK3.out; omega⟩, ⟨by (with_reducible repeat (first | apply Kd.R_alloc | apply Kd.R_drewN | apply Kd.R_drew)); exact HO_6.out⟩, ⟨by (with_reducible repeat (first | apply Kd.R_alloc | apply Kd.R_drewN | apply Kd.R_drew)); exact HO_18.out⟩, ⟨by (with_reducible repeat (first | refine blk_drewN ?_ _ | refine blk_drew ?_ | refine blk_alloc ?_ _)); exact BK184.out⟩, ⟨by repeat (first | (with_reducible first | exact HB.out | apply below_alloc | apply pw_below_drewN | apply below_drew1 | refine below_set ?_ GE184.out) | exact HB.out)⟩⟩
          ·rw [if_neg c12] at H
           exact absurd H (by simp)
         ·rw [if_neg c11] at H
          exact absurd H (by simp)
        ·rw [if_neg c10] at H
         have c10b0 : decide (x20_2 < (x3_1.length : Int)) = false := decide_eq_false c10
         clear c10
         have H' := Aside0.mk H
         clear H
         go_wp2
         go_roundg k2
         case measure => have := HK1.out; have := HK2.out; omega
         case rel => exact ⟨(x6_2), (wrap64 (x14_1 + 1)), (by first | rfl | (simp; done) | (simp [*]; done)), H', ⟨by have := HK1.out; have := HK2.out; omega⟩, ⟨by (with_reducible repeat (first | apply Kd.R_alloc | apply Kd.R_drewN | apply Kd.R_drew)); exact Kd.R_mono HO_6.out (fun _ hk => trivial)⟩, ⟨by (with_reducible repeat (first | refine blk_drewN ?_ _ | refine blk_drew ?_ | refine blk_alloc ?_ _)); exact BK184.out⟩, ⟨by repeat (first | (with_reducible first | exact HB.out | apply below_alloc | apply pw_below_drewN | apply below_drew1 | refine below_set ?_ GE184.out) | exact HB.out)⟩⟩
     ·rw [if_neg c8] at H
      exact absurd H (by simp)
    ·rw [if_neg c7] at H
     exact absurd H (by simp)
   ·rw [if_neg c6] at H
    have c6b0 : decide (x14_1 < (l0_0.length : Int)) = false := decide_eq_false c6
    clear c6
    obtain rfl := Option.some.inj H
    have hpr : ∀ (x : ByteArray) (W : World), x ∈ x3_1 → Below w.heap.size w W → OldBut wr u3 W → Calls Try.prog 44 #[.string x, .pointer (some ⟨gb184, 0, none⟩)] W fun e w' => e = .returned (.bool (!((impl_Bolts_allowed.f l0_0 l0_1 x).getD false))) ∧ Below W.heap.size W w' := by
     intro x W hx hW hO
     have hs := List.all_eq_true.1 HAL.out x hx
     obtain ⟨b, hb⟩ := Option.isSome_iff_exists.1 hs
     rw [hb, Option.getD_some]
     exact states_pred gb184 A0_0 c0_0 l0_0 A0_1 c0_1 l0_1 x b W (ob_blk hO BK184.out (Kd.R_ne HO_3.out BK184.out (by decide))) (Kd.C_below HR0_0.out hW) HC0_0.out (Kd.C_below HR0_1.out hW) HC0_1.out hb
    have HPR := Aside0.mk hpr
    clear hpr
    go_wp2_with (go_at_call 43; refine (slices_DeleteFunc_strs 44 (.pointer (some ⟨gb184, 0, none⟩)) (fun s => !((impl_Bolts_allowed.f l0_0 l0_1 s).getD false)) u3 x3_1 w _ ?dR ?dB EG44.out (fun x W hx hW hO => HPR.out x W hx hW hO)).mono ?_; (case dR => (with_reducible repeat (first | apply Kd.R_alloc | apply Kd.R_drewN | apply Kd.R_drew)); exact HO_3.out); (case dB => repeat (first | (with_reducible first | exact HB.out | apply below_alloc | apply pw_below_drewN | apply below_drew1) | exact HB.out)); rintro e w99 ⟨v99, rfl, hr99, hb99⟩; simp only [Bool.not_not] at hr99; have n0_ := Aside0.mk hr99; have n1_ := Aside0.mk hb99; clear hr99 hb99 HO_3 HB; have HO_3 := n0_; have HB := n1_; clear n0_ n1_)
    go_ret
    exact ⟨_, by first | rfl | (simp [errW_none, errW_some] <;> rfl) | (simp [*, errW_none, errW_some] <;> rfl), by (with_reducible repeat (first | apply Kd.R_alloc | apply Kd.R_drewN | apply Kd.R_drew)); exact HO_3.out, by repeat (first | (with_reducible first | exact HB.out | apply below_alloc | apply pw_below_drewN | apply below_drew1 | refine below_set ?_ GE184.out) | exact HB.out)⟩
/-! ### impl.Bolts.states -/
def impl_Bolts_states.f (k : Nat) (l0_0 : List Int) (l0_1 : List (S56)) : Option (List ByteArray) := (impl_Bolts_states_c.f k l0_0 l0_1).bind fun l => if (l.all fun s => (impl_Bolts_allowed.f l0_0 l0_1 s).isSome) = true then some (l.filter fun s => (impl_Bolts_allowed.f l0_0 l0_1 s).getD false) else none
theorem impl_Bolts_states.mono : ∀ a0 a1 k, LeO (impl_Bolts_states.f k a0 a1) (impl_Bolts_states.f (k + 1) a0 a1) := by
 intro a0 a1 k
 unfold impl_Bolts_states.f
 exact LeO.bind (impl_Bolts_states_c.mono a0 a1 k) (fun _ => LeO.refl _)
theorem impl_Bolts_states.calls (k : Nat) (A0_0 : Option Addr) (c0_0 : Nat) (l0_0 : List Int) (A0_1 : Option Addr) (c0_1 : Nat) (l0_1 : List (S56)) (r : List ByteArray) (w : World) (hr0_0 : Kd.C (Kd.int .i64) w A0_0 l0_0.length l0_0) (hc0_0 : l0_0.length ≤ c0_0) (hr0_1 : Kd.C k56 w A0_1 l0_1.length l0_1) (hc0_1 : l0_1.length ≤ c0_1) (h : impl_Bolts_states.f k l0_0 l0_1 = some r) :
  Calls Try.prog 23 #[.agg #[.slice A0_0 l0_0.length c0_0, .slice A0_1 l0_1.length c0_1]] w fun e w' => ∃ v0_ : Value, e = .returned (v0_) ∧ Kd.R Kd.string 9 w' w.heap.size (fun _ => True) v0_ r ∧ Below w.heap.size w w' := by
 unfold impl_Bolts_states.f at h
 obtain ⟨l, h1, h2⟩ := Option.bind_eq_some_iff.mp h
 by_cases c : (l.all fun s => (impl_Bolts_allowed.f l0_0 l0_1 s).isSome) = true
 ·rw [if_pos c] at h2
  obtain rfl := Option.some.inj h2
  exact impl_Bolts_states_c.calls k A0_0 c0_0 l0_0 A0_1 c0_1 l0_1 l w hr0_0 hc0_0 hr0_1 hc0_1 h1 c
 ·rw [if_neg c] at h2
  cases h2

/-! ### impl_CountAllowed: function 8 -/
def impl_CountAllowed.f (k : Nat) (l0_0 : List Int) (l0_1 : List (S56)) : Option (Int × Bool) := (impl_AreBolts.f k l0_0 l0_1).bind fun t185 => (if t185 = true then ((impl_Bolts_states.f k l0_0 l0_1).bind fun t186 => (some ((t186.length : Int), true))) else (some (0, false)))
theorem impl_CountAllowed.mono : ∀ a0 a1 k, LeO (impl_CountAllowed.f k a0 a1) (impl_CountAllowed.f (k + 1) a0 a1) := by
 intro a0 a1 k
 unfold impl_CountAllowed.f
 repeat' first
   | (with_reducible exact impl_AreBolts.mono _ _ _)
   | (with_reducible exact impl_Bolts_states.mono _ _ _)
   | (with_reducible exact LeO.refl _)
   | (with_reducible exact LeO.none _)
   | (with_reducible refine LeO.ite ?_ ?_)
   | (with_reducible refine LeO.bind ?_ (fun _ => ?_))
   | exact impl_AreBolts.mono _ _ _
   | exact impl_Bolts_states.mono _ _ _
   | exact LeO.none _
   | refine LeO.ite ?_ ?_
   | refine LeO.bind ?_ (fun _ => ?_)
theorem impl_CountAllowed.calls (k : Nat) (A0_0 : Option Addr) (c0_0 : Nat) (l0_0 : List Int) (A0_1 : Option Addr) (c0_1 : Nat) (l0_1 : List (S56)) (r1 : Int) (r2 : Bool) (w : World) (hr0_0 : Kd.C (Kd.int .i64) w A0_0 l0_0.length l0_0) (hc0_0 : l0_0.length ≤ c0_0) (hr0_1 : Kd.C k56 w A0_1 l0_1.length l0_1) (hc0_1 : l0_1.length ≤ c0_1) (h : impl_CountAllowed.f k l0_0 l0_1 = some (r1, r2)) :
  Calls Try.prog 8 #[.agg #[.slice A0_0 l0_0.length c0_0, .slice A0_1 l0_1.length c0_1]] w fun e w' => e = .returned (.tuple #[.int .i64 r1, .bool r2]) ∧ Below w.heap.size w w' := by
 have hu31 := Try.underlying31
 have HR0_0 := Aside0.mk hr0_0
 have HC0_0 := Aside0.mk hc0_0
 clear hr0_0 hc0_0
 have HR0_1 := Aside0.mk hr0_1
 have HC0_1 := Aside0.mk hc0_1
 clear hr0_1 hc0_1
 have HB := Aside0.mk (Below.refl w.heap.size w)
 unfold impl_CountAllowed.f at h
 have H := h
 clear h
 replace H := Option.bind_eq_some_iff.mp H
 obtain ⟨t185, A20, H⟩ := H
 try dsimp +instances only at H
 replace H := H
 have A2 := Aside0.mk A20
 clear A20
 by_cases c3 : t185 = true
 ·subst c3
  rw [if_pos rfl] at H
  have H1 := H
  clear H
  have H := H1
  clear H1
  replace H := Option.bind_eq_some_iff.mp H
  obtain ⟨t186, A40, H⟩ := H
  try dsimp +instances only at H
  replace H := H
  have A4 := Aside0.mk A40
  clear A40
  simp only [Option.some.injEq, Prod.mk.injEq] at H
  obtain ⟨rfl, rfl⟩ := H
  go_enter Try.func8, Try.ntmps8
  go_wp2_with (first | ((with_reducible refine gate_dst (N := 1) rfl ?_); refine box_event ?hg (N := 1) ?hd (cs := #[.slice A0_0 l0_0.length c0_0, .slice A0_1 l0_1.length c0_1]) (t := 31) ?hr ?_; (case hd => rfl); (case hg => rfl); (case hr => first | (go_simp; done) | (go_simp; rfl)); intro gb184 hg w5 hbox hb; have n0_ := Aside0.mk (below_step (by repeat (first | (with_reducible first | exact HB.out | apply below_alloc | apply pw_below_drewN | apply below_drew1) | exact HB.out)) hb); have n1_ := Aside0.mk (hbox); have n2_ := Aside0.mk ((by rw [hg]; exact (below_size (by repeat (first | (with_reducible first | exact HB.out | apply below_alloc | apply pw_below_drewN | apply below_drew1) | exact HB.out))) : w.heap.size ≤ gb184)); have n3_ := Aside0.mk ((by rw [hg]; exact (below_size (by repeat (first | (with_reducible first | exact HB.out | apply below_alloc | apply pw_below_drewN | apply below_drew1) | exact HB.out))) : w.heap.size ≤ gb184)); clear HB; have HB := n0_; have BK184 := n1_; have GW184 := n2_; have GE184 := n3_; clear n0_ n1_ n2_ n3_; clear hb hbox hg; have hcz6_0 : w5.cell? ⟨gb184, 0, none⟩ = some (.slice A0_0 l0_0.length c0_0) := (blk_cell BK184.out 0).trans rfl; have hcz6_1 : w5.cell? ⟨gb184, 1, none⟩ = some (.slice A0_1 l0_1.length c0_1) := (blk_cell BK184.out 1).trans rfl; have hfz6_0 := blk_frozen BK184.out 0; have hfz6_1 := blk_frozen BK184.out 1) | ((with_reducible refine gate_callee (f := 22) rfl ?_); refine goesL_ (some 5) rfl rfl Try.func22 (by kernel_rfl) rfl #[.agg #[.slice A0_0 l0_0.length c0_0, .slice A0_1 l0_1.length c0_1]] rfl (by (try simp only [List.map_toArray, List.map_cons, List.map_nil]); first | done | rfl | (simp only [List.length_drop, List.length_take]; rfl)) ?_; (with_reducible refine (impl_AreBolts.calls k _ _ l0_0 _ _ l0_1 true _ ?side1 ?side2 ?side3 ?side4 A2.out).mono ?_); (case side1 => repeat (first | exact (Kd.C_below HR0_0.out HB.out) | (with_reducible refine Kd.C_alloc ?_ _) | (with_reducible refine Kd.C_drewN ?_ _) | (with_reducible refine Kd.C_drew ?_))); (case side2 => exact HC0_0.out); (case side3 => repeat (first | exact (Kd.C_below HR0_1.out HB.out) | (with_reducible refine Kd.C_alloc ?_ _) | (with_reducible refine Kd.C_drewN ?_ _) | (with_reducible refine Kd.C_drew ?_))); (case side4 => exact HC0_1.out); rintro e w7 ⟨rfl, hb⟩; refine ⟨_, rfl, ?_⟩; have n0_ := Aside0.mk (blk_below (g := gb184) (o := .cells #[.slice A0_0 l0_0.length c0_0, .slice A0_1 l0_1.length c0_1] 31 (0, 0)) (by (with_reducible repeat (first | refine blk_drewN ?_ _ | refine blk_drew ?_ | refine blk_alloc ?_ _)); exact BK184.out) hb); have n1_ := Aside0.mk (below_step (by repeat (first | (with_reducible first | exact HB.out | apply below_alloc | apply pw_below_drewN | apply below_drew1 | refine below_set ?_ GE184.out) | exact HB.out)) hb); clear BK184; clear HB; have BK184 := n0_; have HB := n1_; clear n0_ n1_; (try clear hb); (try clear hb2); (try clear hk); (try clear hi); have hcz8_0 : w7.cell? ⟨gb184, 0, none⟩ = some (.slice A0_0 l0_0.length c0_0) := (blk_cell BK184.out 0).trans rfl; have hcz8_1 : w7.cell? ⟨gb184, 1, none⟩ = some (.slice A0_1 l0_1.length c0_1) := (blk_cell BK184.out 1).trans rfl; have hfz8_0 := blk_frozen BK184.out 0; have hfz8_1 := blk_frozen BK184.out 1) | ((with_reducible refine gate_callee (f := 23) rfl ?_); refine goesL_ (some 8) rfl rfl Try.func23 (by kernel_rfl) rfl #[.agg #[.slice A0_0 l0_0.length c0_0, .slice A0_1 l0_1.length c0_1]] rfl (by (try simp only [List.map_toArray, List.map_cons, List.map_nil]); first | done | rfl | (simp only [List.length_drop, List.length_take]; rfl)) ?_; (with_reducible refine (impl_Bolts_states.calls k _ _ l0_0 _ _ l0_1 t186 _ ?side1 ?side2 ?side3 ?side4 A4.out).mono ?_); (case side1 => repeat (first | exact (Kd.C_below HR0_0.out HB.out) | (with_reducible refine Kd.C_alloc ?_ _) | (with_reducible refine Kd.C_drewN ?_ _) | (with_reducible refine Kd.C_drew ?_))); (case side2 => exact HC0_0.out); (case side3 => repeat (first | exact (Kd.C_below HR0_1.out HB.out) | (with_reducible refine Kd.C_alloc ?_ _) | (with_reducible refine Kd.C_drewN ?_ _) | (with_reducible refine Kd.C_drew ?_))); (case side4 => exact HC0_1.out); rintro e w9 ⟨v187, rfl, ho0, hb⟩; refine ⟨_, rfl, ?_⟩; have n0_ := Aside0.mk (Kd.R_lower ho0 (below_size (by repeat (first | (with_reducible first | exact HB.out | apply below_alloc | apply pw_below_drewN | apply below_drew1 | refine below_set ?_ GE184.out) | exact HB.out)))); have n1_ := Aside0.mk (blk_below (g := gb184) (o := .cells #[.slice A0_0 l0_0.length c0_0, .slice A0_1 l0_1.length c0_1] 31 (0, 0)) (by (with_reducible repeat (first | refine blk_drewN ?_ _ | refine blk_drew ?_ | refine blk_alloc ?_ _)); exact BK184.out) hb); have n2_ := Aside0.mk (below_step (by repeat (first | (with_reducible first | exact HB.out | apply below_alloc | apply pw_below_drewN | apply below_drew1 | refine below_set ?_ GE184.out) | exact HB.out)) hb); clear BK184; clear HB; have HO188 := n0_; have BK184 := n1_; have HB := n2_; clear n0_ n1_ n2_; (try clear hb); (try clear hb2); (try clear hk); (try clear hi); (try clear ho0); obtain ⟨Ao10, co10, eo10⟩ := Kd.R_slice HO188.out; subst eo10))
  go_ret2
  exact ⟨by first | rfl | (simp [errW_none, errW_some] <;> rfl) | (simp [*, errW_none, errW_some] <;> rfl), by repeat (first | (with_reducible first | exact HB.out | apply below_alloc | apply pw_below_drewN | apply below_drew1 | refine below_set ?_ GE184.out) | exact HB.out)⟩
 ·replace c3 := Bool.eq_false_iff.mpr c3
  subst c3
  rw [if_neg (show ¬ (false = true) by decide)] at H
  have H1 := H
  clear H
  have H := H1
  clear H1
  simp only [Option.some.injEq, Prod.mk.injEq] at H
  obtain ⟨rfl, rfl⟩ := H
  go_enter Try.func8, Try.ntmps8
  go_wp2_with (first | ((with_reducible refine gate_dst (N := 1) rfl ?_); refine box_event ?hg (N := 1) ?hd (cs := #[.slice A0_0 l0_0.length c0_0, .slice A0_1 l0_1.length c0_1]) (t := 31) ?hr ?_; (case hd => rfl); (case hg => rfl); (case hr => first | (go_simp; done) | (go_simp; rfl)); intro gb184 hg w11 hbox hb; have n0_ := Aside0.mk (below_step (by repeat (first | (with_reducible first | exact HB.out | apply below_alloc | apply pw_below_drewN | apply below_drew1) | exact HB.out)) hb); have n1_ := Aside0.mk (hbox); have n2_ := Aside0.mk ((by rw [hg]; exact (below_size (by repeat (first | (with_reducible first | exact HB.out | apply below_alloc | apply pw_below_drewN | apply below_drew1) | exact HB.out))) : w.heap.size ≤ gb184)); have n3_ := Aside0.mk ((by rw [hg]; exact (below_size (by repeat (first | (with_reducible first | exact HB.out | apply below_alloc | apply pw_below_drewN | apply below_drew1) | exact HB.out))) : w.heap.size ≤ gb184)); clear HB; have HB := n0_; have BK184 := n1_; have GW184 := n2_; have GE184 := n3_; clear n0_ n1_ n2_ n3_; clear hb hbox hg; have hcz12_0 : w11.cell? ⟨gb184, 0, none⟩ = some (.slice A0_0 l0_0.length c0_0) := (blk_cell BK184.out 0).trans rfl; have hcz12_1 : w11.cell? ⟨gb184, 1, none⟩ = some (.slice A0_1 l0_1.length c0_1) := (blk_cell BK184.out 1).trans rfl; have hfz12_0 := blk_frozen BK184.out 0; have hfz12_1 := blk_frozen BK184.out 1) | ((with_reducible refine gate_callee (f := 22) rfl ?_); refine goesL_ (some 5) rfl rfl Try.func22 (by kernel_rfl) rfl #[.agg #[.slice A0_0 l0_0.length c0_0, .slice A0_1 l0_1.length c0_1]] rfl (by (try simp only [List.map_toArray, List.map_cons, List.map_nil]); first | done | rfl | (simp only [List.length_drop, List.length_take]; rfl)) ?_; (with_reducible refine (impl_AreBolts.calls k _ _ l0_0 _ _ l0_1 false _ ?side1 ?side2 ?side3 ?side4 A2.out).mono ?_); (case side1 => repeat (first | exact (Kd.C_below HR0_0.out HB.out) | (with_reducible refine Kd.C_alloc ?_ _) | (with_reducible refine Kd.C_drewN ?_ _) | (with_reducible refine Kd.C_drew ?_))); (case side2 => exact HC0_0.out); (case side3 => repeat (first | exact (Kd.C_below HR0_1.out HB.out) | (with_reducible refine Kd.C_alloc ?_ _) | (with_reducible refine Kd.C_drewN ?_ _) | (with_reducible refine Kd.C_drew ?_))); (case side4 => exact HC0_1.out); rintro e w13 ⟨rfl, hb⟩; refine ⟨_, rfl, ?_⟩; have n0_ := Aside0.mk (blk_below (g := gb184) (o := .cells #[.slice A0_0 l0_0.length c0_0, .slice A0_1 l0_1.length c0_1] 31 (0, 0)) (by (with_reducible repeat (first | refine blk_drewN ?_ _ | refine blk_drew ?_ | refine blk_alloc ?_ _)); exact BK184.out) hb); have n1_ := Aside0.mk (below_step (by repeat (first | (with_reducible first | exact HB.out | apply below_alloc | apply pw_below_drewN | apply below_drew1 | refine below_set ?_ GE184.out) | exact HB.out)) hb); clear BK184; clear HB; have BK184 := n0_; have HB := n1_; clear n0_ n1_; (try clear hb); (try clear hb2); (try clear hk); (try clear hi)))
  go_ret2
  exact ⟨by first | rfl | (simp [errW_none, errW_some] <;> rfl) | (simp [*, errW_none, errW_some] <;> rfl), by repeat (first | (with_reducible first | exact HB.out | apply below_alloc | apply pw_below_drewN | apply below_drew1 | refine below_set ?_ GE184.out) | exact HB.out)⟩

/-! ### laws_eqIntS: function 24 -/
def laws_eqIntS.l0 : Nat → List Int → List Int → Int → Option (Bool)
 | 0, _, _, _ => none
 | k + 1, x0, x1, x5 => if x5 < (x0.length : Int) then (if 0 ≤ x5 then (if x5 < (x1.length : Int) then (if (rd x0 x5) = (rd x1 x5) then (laws_eqIntS.l0 k x0 x1 (wrap64 (x5 + 1))) else (some false)) else (none)) else (none)) else (some true)
def laws_eqIntS.f (k : Nat) (l0 : List Int) (l1 : List Int) : Option (Bool) := if (l0.length : Int) = (l1.length : Int) then (laws_eqIntS.l0 k l0 l1 0) else (some false)
theorem laws_eqIntS.mono_l : ∀ k, (∀ y0 y1 y2, LeO (laws_eqIntS.l0 k y0 y1 y2) (laws_eqIntS.l0 (k + 1) y0 y1 y2))
 | 0 => fun _ _ _ r h => by simp [laws_eqIntS.l0] at h
 | k + 1 => by
  have ih0 := laws_eqIntS.mono_l k
  ·intro y0 y1 y2
   unfold laws_eqIntS.l0
   repeat' first
   | (with_reducible exact ih0 _ _ _)
   | (with_reducible exact LeO.refl _)
   | (with_reducible exact LeO.none _)
   | (with_reducible refine LeO.ite ?_ ?_)
   | (with_reducible refine LeO.bind ?_ (fun _ => ?_))
   | exact ih0 _ _ _
   | exact LeO.none _
   | refine LeO.ite ?_ ?_
   | refine LeO.bind ?_ (fun _ => ?_)
theorem laws_eqIntS.mono : ∀ a0 a1 k, LeO (laws_eqIntS.f k a0 a1) (laws_eqIntS.f (k + 1) a0 a1) := by
 intro a0 a1 k
 have ih0 := laws_eqIntS.mono_l k
 unfold laws_eqIntS.f
 repeat' first
   | (with_reducible exact ih0 _ _ _)
   | (with_reducible exact LeO.refl _)
   | (with_reducible exact LeO.none _)
   | (with_reducible refine LeO.ite ?_ ?_)
   | (with_reducible refine LeO.bind ?_ (fun _ => ?_))
   | exact ih0 _ _ _
   | exact LeO.none _
   | refine LeO.ite ?_ ?_
   | refine LeO.bind ?_ (fun _ => ?_)
theorem laws_eqIntS.calls (k : Nat) (A0 : Option Addr) (c0 : Nat) (l0 : List Int) (A1 : Option Addr) (c1 : Nat) (l1 : List Int) (r : Bool) (w : World) (hr0 : Kd.C (Kd.int .i64) w A0 l0.length l0) (hc0 : l0.length ≤ c0) (hr1 : Kd.C (Kd.int .i64) w A1 l1.length l1) (hc1 : l1.length ≤ c1) (h : laws_eqIntS.f k l0 l1 = some r) :
  Calls Try.prog 24 #[.slice A0 l0.length c0, .slice A1 l1.length c1] w fun e w' => e = .returned (.bool r) ∧ Drawn0 w w' := by
 have HR0 := Aside0.mk hr0
 have HC0 := Aside0.mk hc0
 clear hr0 hc0
 have HR1 := Aside0.mk hr1
 have HC1 := Aside0.mk hc1
 clear hr1 hc1
 unfold laws_eqIntS.f at h
 have H := h
 clear h
 by_cases c3 : (l0.length : Int) = (l1.length : Int)
 ·rw [if_pos c3] at H
  have c3b0 : ((l0.length : Int) == (l1.length : Int)) = true := beq_iff_eq.mpr c3
  have c3b1 : ((l0.length : Int) != (l1.length : Int)) = false := bne_eq_false_iff_eq.mpr c3
  have c3b2 : (l0.length == l1.length) = true := by first | simpa using c3 | (simp at c3 ⊢; omega)
  clear c3
  have H' := Aside0.mk H
  clear H
  go_enter Try.func24, Try.ntmps24
  go_wp2
  repeat (go_quiet (fail); try go_wp2)
  go_loopg [5] k (fun kq v5 w' => ∃ (x5_1 : Int), v5 = .int .i64 x5_1 ∧ Aside0 (laws_eqIntS.l0 kq l0 l1 x5_1 = some r) ∧ Aside0 (kq ≤ k) ∧ Drawn0 w w')
  case atStart => exact ⟨(0), (by first | rfl | (simp; done) | (simp [*]; done)), H', ⟨Nat.le_refl _⟩, by repeat (first | exact Drawn0.refl _ | apply Drawn0.step)⟩
  case round =>
   clear H'
   try clear c1
   try clear c2
   try clear p2
   try clear c3
   try clear c3b0
   try clear c3b1
   try clear c3b2
   obtain ⟨x5_1, rfl, HA, HK1, ⟨m1, rfl⟩⟩ := hrel
   cases gk with
   | zero => exact absurd HA.out (by simp [laws_eqIntS.l0])
   | succ k1 =>
    have H := HA.out
    clear HA
    simp only [laws_eqIntS.l0] at H
    by_cases c4 : x5_1 < (l0.length : Int)
    ·rw [if_pos c4] at H
     have c4b0 : decide (x5_1 < (l0.length : Int)) = true := decide_eq_true c4
     clear c4
     by_cases c5 : 0 ≤ x5_1
     ·rw [if_pos c5] at H
      have c5b0 : decide (0 ≤ x5_1) = true := decide_eq_true c5
      clear c5
      by_cases c6 : x5_1 < (l1.length : Int)
      ·rw [if_pos c6] at H
       have c6b0 : decide (x5_1 < (l1.length : Int)) = true := decide_eq_true c6
       clear c6
       by_cases c7 : (rd l0 x5_1) = (rd l1 x5_1)
       ·rw [if_pos c7] at H
        have c7b0 : ((rd l0 x5_1) == (rd l1 x5_1)) = true := beq_iff_eq.mpr c7
        have c7b1 : ((rd l0 x5_1) != (rd l1 x5_1)) = false := bne_eq_false_iff_eq.mpr c7
        clear c7
        have H' := Aside0.mk H
        clear H
        have p189 : 0 ≤ (x5_1 : Int) := of_decide_eq_true (by first | (with_reducible assumption) | assumption)
        have q189 : x5_1 < (l0.length : Int) := of_decide_eq_true (by first | (with_reducible assumption) | assumption)
        obtain ⟨ad189, e189, hx189_0⟩ := Kd.at_int HR0.out x5_1 p189 q189
        cases e189
        replace p189 := eq_true p189
        replace q189 := eq_true q189
        have p190 : 0 ≤ (x5_1 : Int) := of_decide_eq_true (by first | (with_reducible assumption) | assumption)
        have q190 : x5_1 < (l1.length : Int) := of_decide_eq_true (by first | (with_reducible assumption) | assumption)
        obtain ⟨ad190, e190, hx190_0⟩ := Kd.at_int HR1.out x5_1 p190 q190
        cases e190
        replace p190 := eq_true p190
        replace q190 := eq_true q190
        go_wp2
        repeat (go_quiet (fail); try go_wp2)
        go_roundg k1
        case measure => have := HK1.out; omega
        case rel => exact ⟨(wrap64 (x5_1 + 1)), (by first | rfl | (simp; done) | (simp [*]; done)), H', ⟨by have := HK1.out; omega⟩, by repeat (first | exact Drawn0.refl _ | apply Drawn0.step)⟩
       ·rw [if_neg c7] at H
        have c7b0 : ((rd l0 x5_1) == (rd l1 x5_1)) = false := beq_eq_false_iff_ne.mpr c7
        have c7b1 : ((rd l0 x5_1) != (rd l1 x5_1)) = true := bne_iff_ne.mpr c7
        obtain rfl := Option.some.inj H
        have p189 : 0 ≤ (x5_1 : Int) := of_decide_eq_true (by first | (with_reducible assumption) | assumption)
        have q189 : x5_1 < (l0.length : Int) := of_decide_eq_true (by first | (with_reducible assumption) | assumption)
        obtain ⟨ad189, e189, hx189_0⟩ := Kd.at_int HR0.out x5_1 p189 q189
        cases e189
        replace p189 := eq_true p189
        replace q189 := eq_true q189
        have p190 : 0 ≤ (x5_1 : Int) := of_decide_eq_true (by first | (with_reducible assumption) | assumption)
        have q190 : x5_1 < (l1.length : Int) := of_decide_eq_true (by first | (with_reducible assumption) | assumption)
        obtain ⟨ad190, e190, hx190_0⟩ := Kd.at_int HR1.out x5_1 p190 q190
        cases e190
        replace p190 := eq_true p190
        replace q190 := eq_true q190
        go_wp2
        repeat (go_quiet (fail); try go_wp2)
        go_ret
        exact ⟨by first | rfl | (simp; done) | (simp [*]; done), by repeat (first | exact Drawn0.refl _ | apply Drawn0.step)⟩
      ·rw [if_neg c6] at H
       exact absurd H (by simp)
     ·rw [if_neg c5] at H
      exact absurd H (by simp)
    ·rw [if_neg c4] at H
     have c4b0 : decide (x5_1 < (l0.length : Int)) = false := decide_eq_false c4
     clear c4
     obtain rfl := Option.some.inj H
     go_wp2
     repeat (go_quiet (fail); try go_wp2)
     go_ret
     exact ⟨by first | rfl | (simp; done) | (simp [*]; done), by repeat (first | exact Drawn0.refl _ | apply Drawn0.step)⟩
 ·rw [if_neg c3] at H
  have c3b0 : ((l0.length : Int) == (l1.length : Int)) = false := beq_eq_false_iff_ne.mpr c3
  have c3b1 : ((l0.length : Int) != (l1.length : Int)) = true := bne_iff_ne.mpr c3
  have c3b2 : (l0.length == l1.length) = false := by first | simpa using c3 | (simp at c3 ⊢; omega)
  obtain rfl := Option.some.inj H
  go_enter Try.func24, Try.ntmps24
  go_wp2
  repeat (go_quiet (fail); try go_wp2)
  go_ret
  exact ⟨by first | rfl | (simp; done) | (simp [*]; done), by repeat (first | exact Drawn0.refl _ | apply Drawn0.step)⟩

end Go.Proofs.Ytpbgloppcenljaa.A
