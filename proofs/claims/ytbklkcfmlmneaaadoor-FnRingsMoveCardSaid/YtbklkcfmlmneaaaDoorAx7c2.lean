-- written by a program of this session's over the kit's print (xp.py)
import Derived.Test.YtbklkcfmlmneaaaDoorAx0
import Derived.Test.YtbklkcfmlmneaaaDoorAx1
import Derived.Test.YtbklkcfmlmneaaaDoorAx2
import Derived.Test.YtbklkcfmlmneaaaDoorAx3
import Derived.Test.YtbklkcfmlmneaaaDoorAx4
import Derived.Test.YtbklkcfmlmneaaaDoorAx5
import Derived.Test.YtbklkcfmlmneaaaDoorAx6
import Derived.Test.YtbklkcfmlmneaaaDoorAx7
import Derived.Test.YtbklkcfmlmneaaaDoorAx7c1
-- halved
namespace Go.Proofs.YtbklkcfmlmneaaaDoor.A
-- slim
set_option maxHeartbeats 8000000
set_option maxRecDepth 100000
open Go.RowKit Go.Proofs.YtbklkcfmlmneaaaDoorW.PrintWords Go.Proofs.YtbklkcfmlmneaaaDoorW.PrintLast Go.Proofs.YtbklkcfmlmneaaaDoorW.PrintMore
attribute [local go_sem] max2_int min2_int max_two min_two max_three min_three max_four min_four   -- for this text's walks alone
set_option linter.unusedVariables false
set_option linter.unusedSimpArgs false

theorem laws_FnRingsMove.c13 : laws_FnRingsMove.c12.1 := by
 intro k A0 c0 l0 A1 c1 l1 r w HR0 HC0 HR1 HC1 A3 t310 A5 t311 t315 t316 A7 t319 t320 A8 t321 t322 A9 t323 t324 A10 t325 t326 A11 t327 t328 t329 A12 t332 t333 t334 A13 _ _ w15 w16 w17 v317 w18 _ w19 nd w20 w21 v335 _ _ _ kj13 HJ13 _ _ J_ K_ hK_ A6 t342 t343 A92 w94 _ f_ wc _ kj92 HJ92 Ao128 co128 HO314 HO318 _ HO_6 _ _ _ u27 u28 u29 u30 u31 u32 u33 u34 u263 u264 u265 u266 u267 u268 u269 u270 u271 u272 u273 u274 u275 u276 u277 u278 u279 u280 u281 u282 u283 u284 u285 u286 u287 u288 u289 u290 u291 u292 u293 u294 u295 u296 u297 u298 u299 u300 u301 u302 u303 u304 u305 u306 u307 u308 u309 u310 u311 u312 u313 u314 u315 u316 u317 u318 u319 u320 u321 _ _ x262_3 HO_260 HB k3 _ HK3 c129b0 H' Ao152 co152 HO331 HO336 _ _ hJ_ _ HO_18 _ _ gk wr u4 u36 u37 u38 u324 u325 u326 u327 u328 u329 u330 u331 u332 u333 u334 u335 u336 u337 u338 u339 u340 u341 hrel _ _ _ _
 clear H'
 try clear c1
 try clear p1
 try clear q1
 try clear hx1
 try clear c2
 try clear p2
 try clear c3
 try clear p3
 try clear q3
 try clear hx3
 try clear qi3
 try clear c4
 try clear c5
 try clear c6
 try clear p6
 try clear c8
 try clear c9
 try clear c10
 try clear c11
 try clear c12
 try clear c13
 try clear c14
 try clear p14
 try clear q14
 try clear hx14
 try clear c15
 try clear p15
 try clear q15
 try clear hx15
 try clear c22
 try clear c22b0
 try clear c22b1
 try clear c22b2
 try clear c24
 try clear c25
 try clear c25b0
 try clear c25b1
 try clear c25b2
 try clear c28
 try clear c28b0
 try clear c28b1
 try clear c29
 try clear c29b0
 try clear c29b1
 try clear c29b2
 try clear c32
 try clear c32b0
 try clear c32b1
 try clear c33
 try clear c33b0
 try clear c33b1
 try clear c33b2
 try clear p34
 try clear q34
 try clear hx34
 try clear qi34
 try clear c37
 try clear c38
 try clear c38b0
 try clear c38b1
 try clear c40
 try clear c40b0
 try clear c40b1
 try clear c40b2
 try clear c48
 try clear c48b0
 try clear c48b1
 try clear c48b2
 try clear c55
 try clear c55b0
 try clear c55b1
 try clear c55b2
 try clear c62
 try clear c62b0
 try clear c62b1
 try clear c62b2
 try clear p64
 try clear c89
 try clear c91
 try clear c95
 try clear c95b0
 try clear c95b1
 try clear c97
 try clear c97b0
 try clear c97b1
 try clear c99
 try clear c99b0
 try clear c99b1
 try clear c100
 try clear c100b0
 try clear c100b1
 try clear c101
 try clear c101b0
 try clear c104
 try clear c104b0
 try clear c106
 try clear c107
 try clear c107b0
 try clear c107b1
 try clear c108
 try clear c108b0
 try clear c108b1
 try clear c109
 try clear c109b0
 try clear c109b1
 try clear c109b2
 try clear c111
 try clear c111b0
 try clear c111b1
 try clear c116
 try clear c116b0
 try clear c117
 try clear c117b0
 try clear c117b1
 try clear c117b2
 try clear c119
 try clear c119b0
 try clear c119b1
 try clear c127
 try clear c129
 try clear c129b0
 try clear c130
 try clear c130b0
 try clear c131
 try clear c131b0
 try clear c139
 try clear c140
 try clear c141
 try clear c141b0
 try clear c141b1
 try clear c142
 try clear c144
 try clear c145
 try clear c145b0
 try clear c146
 try clear c146b0
 try clear c147
 try clear c147b0
 try clear p148
 try clear q148
 try clear hx148
 try clear c149
 try clear c149b0
 try clear p150
 try clear q150
 try clear hx150
 try clear c151
 try clear c151b0
 try clear c151b1
 try clear c151b2
 try clear hx344_0
 try clear hx345_0
 try clear p148
 try clear p150
 try clear p2
 try clear p3
 try clear p34
 try clear p344
 try clear p345
 try clear p6
 try clear p64
 try clear q148
 try clear q150
 try clear q3
 try clear q34
 try clear q344
 try clear q345
 obtain ⟨x324_4, rfl, HA, HK4, HO_322, HB⟩ := hrel
 cases gk with
 | zero => exact absurd HA.out (by simp [laws_FnRingsMove.l2])
 | succ k4 =>
  have H := HA.out
  clear HA
  simp only [laws_FnRingsMove.l2] at H
  by_cases c153 : x324_4 < (t327.length : Int)
  ·rw [if_pos c153] at H
   have c153b0 : decide (x324_4 < (t327.length : Int)) = true := decide_eq_true c153
   clear c153
   by_cases c154 : 0 ≤ x324_4
   ·rw [if_pos c154] at H
    have c154b0 : decide (0 ≤ x324_4) = true := decide_eq_true c154
    clear c154
    by_cases c155 : x324_4 < (t327.length : Int)
    ·rw [if_pos c155] at H
     have c155b0 : decide (x324_4 < (t327.length : Int)) = true := decide_eq_true c155
     clear c155
     replace H := Option.bind_eq_some_iff.mp H
     obtain ⟨⟨t354, t355⟩, A1560, H⟩ := H
     try dsimp +instances only at H
     replace H := H
     have A156 := Aside0.mk A1560
     clear A1560
     by_cases c157 : t355 = true
     ·subst c157
      rw [if_pos rfl] at H
      have H1 := H
      clear H
      have H := H1
      clear H1
      by_cases c158 : t354 = t328
      ·rw [if_pos c158] at H
       have c158b0 : (t354 == t328) = true := beq_iff_eq.mpr c158
       have c158b1 : (t354 != t328) = false := bne_eq_false_iff_eq.mpr c158
       clear c158
       have H' := Aside0.mk H
       clear H
       have p353 : 0 ≤ (x324_4 : Int) := of_decide_eq_true (by first | (with_reducible assumption) | assumption)
       have q353 : x324_4 < (t327.length : Int) := of_decide_eq_true (by first | (with_reducible assumption) | assumption)
       obtain ⟨ad353, e353, hx353_0⟩ := Kd.at_string (Kd.R_reads' HO_322.out).2.2 x324_4 p353 q353
       cases e353
       replace p353 := eq_true p353
       replace q353 := eq_true q353
       go_wp2_with (first | (go_at_call 21; (with_reducible refine (impl_FewestMoves.calls k4 t310 (rdOf ByteArray.empty t327 x324_4) t354 true _ A156.out).mono ?_); rintro e w159 ⟨rfl, hb⟩; have n0_ := Aside0.mk (Kd.R_below (by (with_reducible repeat (first | apply Kd.R_alloc | apply Kd.R_drewN | apply Kd.R_drew)); exact HO_322.out) hb); have n1_ := Aside0.mk (below_step (by repeat (first | (with_reducible first | exact HB.out | apply below_alloc | apply pw_below_drewN | apply below_drew1) | exact HB.out)) hb); clear HO_322; clear HB; have HO_322 := n0_; have HB := n1_; clear n0_ n1_; (try clear hb); (try clear hb2); (try clear hk); (try clear hi)))
       repeat (go_quiet (first | (go_at_call 21; (with_reducible refine (impl_FewestMoves.calls k4 t310 (rdOf ByteArray.empty t327 x324_4) t354 true _ A156.out).mono ?_); rintro e w159 ⟨rfl, hb⟩; have n0_ := Aside0.mk (Kd.R_below (by (with_reducible repeat (first | apply Kd.R_alloc | apply Kd.R_drewN | apply Kd.R_drew)); exact HO_322.out) hb); have n1_ := Aside0.mk (below_step (by repeat (first | (with_reducible first | exact HB.out | apply below_alloc | apply pw_below_drewN | apply below_drew1) | exact HB.out)) hb); clear HO_322; clear HB; have HO_322 := n0_; have HB := n1_; clear n0_ n1_; (try clear hb); (try clear hb2); (try clear hk); (try clear hi))); try go_wp2_with (first | (go_at_call 21; (with_reducible refine (impl_FewestMoves.calls k4 t310 (rdOf ByteArray.empty t327 x324_4) t354 true _ A156.out).mono ?_); rintro e w159 ⟨rfl, hb⟩; have n0_ := Aside0.mk (Kd.R_below (by (with_reducible repeat (first | apply Kd.R_alloc | apply Kd.R_drewN | apply Kd.R_drew)); exact HO_322.out) hb); have n1_ := Aside0.mk (below_step (by repeat (first | (with_reducible first | exact HB.out | apply below_alloc | apply pw_below_drewN | apply below_drew1) | exact HB.out)) hb); clear HO_322; clear HB; have HO_322 := n0_; have HB := n1_; clear n0_ n1_; (try clear hb); (try clear hb2); (try clear hk); (try clear hi))))
       go_roundg k4
       case measure => have := HJ13.out; have := HJ92.out; have := HK3.out; have := HK4.out; omega
       case rel => exact ⟨(wrap64 (x324_4 + 1)), (by first | rfl | ((conv => lhs; whnf); first | rfl | (simp; done) | (simp [*]; done))), H', ⟨by have := HJ13.out; have := HJ92.out; have := HK3.out; have := HK4.out; omega⟩, ⟨by (with_reducible repeat (first | apply Kd.R_alloc | apply Kd.R_drewN | apply Kd.R_drew)); exact HO_322.out⟩, ⟨by repeat (first | (with_reducible first | exact HB.out | apply below_alloc | apply pw_below_drewN | apply below_drew1) | exact HB.out)⟩⟩
      ·rw [if_neg c158] at H
       have c158b0 : (t354 == t328) = false := beq_eq_false_iff_ne.mpr c158
       have c158b1 : (t354 != t328) = true := bne_iff_ne.mpr c158
       obtain rfl := Option.some.inj H
       have p353 : 0 ≤ (x324_4 : Int) := of_decide_eq_true (by first | (with_reducible assumption) | assumption)
       have q353 : x324_4 < (t327.length : Int) := of_decide_eq_true (by first | (with_reducible assumption) | assumption)
       obtain ⟨ad353, e353, hx353_0⟩ := Kd.at_string (Kd.R_reads' HO_322.out).2.2 x324_4 p353 q353
       cases e353
       replace p353 := eq_true p353
       replace q353 := eq_true q353
       go_wp2_with (first | (go_at_call 21; (with_reducible refine (impl_FewestMoves.calls k4 t310 (rdOf ByteArray.empty t327 x324_4) t354 true _ A156.out).mono ?_); rintro e w160 ⟨rfl, hb⟩; have n0_ := Aside0.mk (Kd.R_below (by (with_reducible repeat (first | apply Kd.R_alloc | apply Kd.R_drewN | apply Kd.R_drew)); exact HO_322.out) hb); have n1_ := Aside0.mk (below_step (by repeat (first | (with_reducible first | exact HB.out | apply below_alloc | apply pw_below_drewN | apply below_drew1) | exact HB.out)) hb); clear HO_322; clear HB; have HO_322 := n0_; have HB := n1_; clear n0_ n1_; (try clear hb); (try clear hb2); (try clear hk); (try clear hi)))
       repeat (go_quiet (first | (go_at_call 21; (with_reducible refine (impl_FewestMoves.calls k4 t310 (rdOf ByteArray.empty t327 x324_4) t354 true _ A156.out).mono ?_); rintro e w160 ⟨rfl, hb⟩; have n0_ := Aside0.mk (Kd.R_below (by (with_reducible repeat (first | apply Kd.R_alloc | apply Kd.R_drewN | apply Kd.R_drew)); exact HO_322.out) hb); have n1_ := Aside0.mk (below_step (by repeat (first | (with_reducible first | exact HB.out | apply below_alloc | apply pw_below_drewN | apply below_drew1) | exact HB.out)) hb); clear HO_322; clear HB; have HO_322 := n0_; have HB := n1_; clear n0_ n1_; (try clear hb); (try clear hb2); (try clear hk); (try clear hi))); try go_wp2_with (first | (go_at_call 21; (with_reducible refine (impl_FewestMoves.calls k4 t310 (rdOf ByteArray.empty t327 x324_4) t354 true _ A156.out).mono ?_); rintro e w160 ⟨rfl, hb⟩; have n0_ := Aside0.mk (Kd.R_below (by (with_reducible repeat (first | apply Kd.R_alloc | apply Kd.R_drewN | apply Kd.R_drew)); exact HO_322.out) hb); have n1_ := Aside0.mk (below_step (by repeat (first | (with_reducible first | exact HB.out | apply below_alloc | apply pw_below_drewN | apply below_drew1) | exact HB.out)) hb); clear HO_322; clear HB; have HO_322 := n0_; have HB := n1_; clear n0_ n1_; (try clear hb); (try clear hb2); (try clear hk); (try clear hi))))
       go_ret
       exact ⟨by first | rfl | (simp [errW_none, errW_some] <;> rfl) | (simp [*, errW_none, errW_some] <;> rfl), by repeat (first | (with_reducible first | exact HB.out | apply below_alloc | apply pw_below_drewN | apply below_drew1) | exact HB.out)⟩
     ·replace c157 := Bool.eq_false_iff.mpr c157
      subst c157
      rw [if_neg (show ¬ (false = true) by decide)] at H
      have H1 := H
      clear H
      have H := H1
      clear H1
      obtain rfl := Option.some.inj H
      have p353 : 0 ≤ (x324_4 : Int) := of_decide_eq_true (by first | (with_reducible assumption) | assumption)
      have q353 : x324_4 < (t327.length : Int) := of_decide_eq_true (by first | (with_reducible assumption) | assumption)
      obtain ⟨ad353, e353, hx353_0⟩ := Kd.at_string (Kd.R_reads' HO_322.out).2.2 x324_4 p353 q353
      cases e353
      replace p353 := eq_true p353
      replace q353 := eq_true q353
      go_wp2_with (first | (go_at_call 21; (with_reducible refine (impl_FewestMoves.calls k4 t310 (rdOf ByteArray.empty t327 x324_4) t354 false _ A156.out).mono ?_); rintro e w161 ⟨rfl, hb⟩; have n0_ := Aside0.mk (Kd.R_below (by (with_reducible repeat (first | apply Kd.R_alloc | apply Kd.R_drewN | apply Kd.R_drew)); exact HO_322.out) hb); have n1_ := Aside0.mk (below_step (by repeat (first | (with_reducible first | exact HB.out | apply below_alloc | apply pw_below_drewN | apply below_drew1) | exact HB.out)) hb); clear HO_322; clear HB; have HO_322 := n0_; have HB := n1_; clear n0_ n1_; (try clear hb); (try clear hb2); (try clear hk); (try clear hi)))
      repeat (go_quiet (first | (go_at_call 21; (with_reducible refine (impl_FewestMoves.calls k4 t310 (rdOf ByteArray.empty t327 x324_4) t354 false _ A156.out).mono ?_); rintro e w161 ⟨rfl, hb⟩; have n0_ := Aside0.mk (Kd.R_below (by (with_reducible repeat (first | apply Kd.R_alloc | apply Kd.R_drewN | apply Kd.R_drew)); exact HO_322.out) hb); have n1_ := Aside0.mk (below_step (by repeat (first | (with_reducible first | exact HB.out | apply below_alloc | apply pw_below_drewN | apply below_drew1) | exact HB.out)) hb); clear HO_322; clear HB; have HO_322 := n0_; have HB := n1_; clear n0_ n1_; (try clear hb); (try clear hb2); (try clear hk); (try clear hi))); try go_wp2_with (first | (go_at_call 21; (with_reducible refine (impl_FewestMoves.calls k4 t310 (rdOf ByteArray.empty t327 x324_4) t354 false _ A156.out).mono ?_); rintro e w161 ⟨rfl, hb⟩; have n0_ := Aside0.mk (Kd.R_below (by (with_reducible repeat (first | apply Kd.R_alloc | apply Kd.R_drewN | apply Kd.R_drew)); exact HO_322.out) hb); have n1_ := Aside0.mk (below_step (by repeat (first | (with_reducible first | exact HB.out | apply below_alloc | apply pw_below_drewN | apply below_drew1) | exact HB.out)) hb); clear HO_322; clear HB; have HO_322 := n0_; have HB := n1_; clear n0_ n1_; (try clear hb); (try clear hb2); (try clear hk); (try clear hi))))
      go_ret
      exact ⟨by first | rfl | (simp [errW_none, errW_some] <;> rfl) | (simp [*, errW_none, errW_some] <;> rfl), by repeat (first | (with_reducible first | exact HB.out | apply below_alloc | apply pw_below_drewN | apply below_drew1) | exact HB.out)⟩
    ·rw [if_neg c155] at H
     exact absurd H (by simp)
   ·rw [if_neg c154] at H
    exact absurd H (by simp)
  ·rw [if_neg c153] at H
   have c153b0 : decide (x324_4 < (t327.length : Int)) = false := decide_eq_false c153
   clear c153
   have H' := Aside0.mk H
   clear H
   go_wp2
   repeat (go_quiet (fail); try go_wp2)
   refine Met.intro (hJ_ _ _ ?mg_ ?rel)
   case mg_ => kernel_rfl
   case rel => exact ⟨_, H', ⟨by have := HJ13.out; have := HJ92.out; have := HK3.out; have := HK4.out; first | omega | exact Nat.le_refl _⟩, ⟨by repeat (first | (with_reducible first | exact HB.out | apply below_alloc | apply pw_below_drewN | apply below_drew1) | exact HB.out)⟩⟩

def laws_FnRingsMove.c14 : PSigma fun P0_ : Prop => PSigma fun P1_ : Prop => Hole P0_ → Hole P1_ → laws_FnRingsMove.c5.2.1 := by
 refine' ⟨_, _, fun HP0_ HP1_ => _⟩
 rotate_left 2
 intro k A0 c0 l0 A1 c1 l1 r w HR0 HC0 HR1 HC1 A3 t310 A5 t311 t312 A6 t315 t316 A7 t319 t320 A8 t321 t322 A9 t323 t324 A10 t325 t326 A11 t327 t328 t329 A12 t332 t333 t334 A13 _ _ w15 w16 v313 w17 v317 w18 _ w19 nd w20 v330 w21 v335 HO314 HO318 HO331 HO336 _ _ _ HO_6 HO_18 HB kj13 HJ13 HC90 _ _ f_ wc hcut
 clear HC90
 try clear c1
 try clear p1
 try clear q1
 try clear hx1
 try clear c2
 try clear p2
 try clear c3
 try clear p3
 try clear q3
 try clear hx3
 try clear qi3
 try clear c4
 try clear c5
 try clear c6
 try clear p6
 try clear c8
 try clear c9
 try clear c10
 try clear c11
 try clear c12
 try clear c13
 try clear c14
 try clear p14
 try clear q14
 try clear hx14
 try clear c15
 try clear p15
 try clear q15
 try clear hx15
 try clear c22
 try clear c22b0
 try clear c22b1
 try clear c22b2
 try clear c24
 try clear c25
 try clear c25b0
 try clear c25b1
 try clear c25b2
 try clear c28
 try clear c28b0
 try clear c28b1
 try clear c29
 try clear c29b0
 try clear c29b1
 try clear c29b2
 try clear c32
 try clear c32b0
 try clear c32b1
 try clear c33
 try clear c33b0
 try clear c33b1
 try clear c33b2
 try clear p34
 try clear q34
 try clear hx34
 try clear qi34
 try clear p35
 try clear q35
 try clear hx35
 try clear c37
 try clear c38
 try clear c38b0
 try clear c38b1
 try clear c40
 try clear c40b0
 try clear c40b1
 try clear c40b2
 try clear c48
 try clear c48b0
 try clear c48b1
 try clear c48b2
 try clear c55
 try clear c55b0
 try clear c55b1
 try clear c55b2
 try clear c62
 try clear c62b0
 try clear c62b1
 try clear c62b2
 try clear p64
 try clear c89
 try clear c91
 try clear c95
 try clear c95b0
 try clear c95b1
 try clear c97
 try clear c97b0
 try clear c97b1
 try clear c99
 try clear c99b0
 try clear c99b1
 try clear c100
 try clear c100b0
 try clear c100b1
 try clear c101
 try clear c101b0
 try clear c104
 try clear c104b0
 try clear c106
 try clear c107
 try clear c107b0
 try clear c107b1
 try clear c108
 try clear c108b0
 try clear c108b1
 try clear c109
 try clear c109b0
 try clear c109b1
 try clear c109b2
 try clear c111
 try clear c111b0
 try clear c111b1
 try clear c116
 try clear c116b0
 try clear c117
 try clear c117b0
 try clear c117b1
 try clear c117b2
 try clear c119
 try clear c119b0
 try clear c119b1
 try clear c127
 try clear c129
 try clear c129b0
 try clear c130
 try clear c130b0
 try clear c131
 try clear c131b0
 try clear c139
 try clear c140
 try clear c141
 try clear c141b0
 try clear c141b1
 try clear c142
 try clear c144
 try clear c145
 try clear c145b0
 try clear c146
 try clear c146b0
 try clear c147
 try clear c147b0
 try clear p148
 try clear q148
 try clear hx148
 try clear c149
 try clear c149b0
 try clear p150
 try clear q150
 try clear hx150
 try clear c151
 try clear c151b0
 try clear c151b1
 try clear c151b2
 try clear c153
 try clear c153b0
 try clear c154
 try clear c154b0
 try clear c155
 try clear c155b0
 try clear c157
 try clear c158
 try clear c158b0
 try clear c158b1
 try clear hx344_0
 try clear hx345_0
 try clear hx353_0
 try clear p1
 try clear p14
 try clear p148
 try clear p15
 try clear p150
 try clear p2
 try clear p3
 try clear p34
 try clear p344
 try clear p345
 try clear p353
 try clear p6
 try clear p64
 try clear q1
 try clear q14
 try clear q148
 try clear q15
 try clear q150
 try clear q3
 try clear q34
 try clear q344
 try clear q345
 try clear q353
 obtain ⟨kq, HA, HJ89, HB⟩ := hcut
 cases kq with
 | zero => exact absurd HA.out (by simp [laws_FnRingsMove.j6])
 | succ kj89 =>
  have H := HA.out
  clear HA
  simp only [laws_FnRingsMove.j6] at H
  replace H := Option.bind_eq_some_iff.mp H
  obtain ⟨⟨t356, t357⟩, A1620, H⟩ := H
  try dsimp +instances only at H
  replace H := H
  have A162 := Aside0.mk A1620
  clear A1620
  replace H := Option.bind_eq_some_iff.mp H
  obtain ⟨⟨t360, t361⟩, A1630, H⟩ := H
  try dsimp +instances only at H
  replace H := H
  have A163 := Aside0.mk A1630
  clear A1630
  replace H := Option.bind_eq_some_iff.mp H
  obtain ⟨⟨t362, t363⟩, A1640, H⟩ := H
  try dsimp +instances only at H
  replace H := H
  have A164 := Aside0.mk A1640
  clear A1640
  replace H := Option.bind_eq_some_iff.mp H
  obtain ⟨⟨t364, t365⟩, A1650, H⟩ := H
  try dsimp +instances only at H
  replace H := H
  have A165 := Aside0.mk A1650
  clear A1650
  replace H := Option.bind_eq_some_iff.mp H
  obtain ⟨⟨t366, t367⟩, A1660, H⟩ := H
  try dsimp +instances only at H
  replace H := H
  have A166 := Aside0.mk A1660
  clear A1660
  replace H := Option.bind_eq_some_iff.mp H
  obtain ⟨⟨t368, t369⟩, A1670, H⟩ := H
  try dsimp +instances only at H
  replace H := H
  have A167 := Aside0.mk A1670
  clear A1670
  replace H := Option.bind_eq_some_iff.mp H
  obtain ⟨⟨t370, t371⟩, A1680, H⟩ := H
  try dsimp +instances only at H
  replace H := H
  have A168 := Aside0.mk A1680
  clear A1680
  replace H := Option.bind_eq_some_iff.mp H
  obtain ⟨⟨t372, t373⟩, A1690, H⟩ := H
  try dsimp +instances only at H
  replace H := H
  have A169 := Aside0.mk A1690
  clear A1690
  replace H := Option.bind_eq_some_iff.mp H
  obtain ⟨⟨t374, t375⟩, A1700, H⟩ := H
  try dsimp +instances only at H
  replace H := H
  have A170 := Aside0.mk A1700
  clear A1700
  replace H := Option.bind_eq_some_iff.mp H
  obtain ⟨⟨t376, t377⟩, A1710, H⟩ := H
  try dsimp +instances only at H
  replace H := H
  have A171 := Aside0.mk A1710
  clear A1710
  replace H := Option.bind_eq_some_iff.mp H
  obtain ⟨⟨t378, t379⟩, A1720, H⟩ := H
  try dsimp +instances only at H
  replace H := H
  have A172 := Aside0.mk A1720
  clear A1720
  have HC173 := Aside0.mk H
  clear H
  go_upto_region 50 with (first | (go_at_call 22; (with_reducible refine (spec_DrawPlayMoves.calls kj89 _ _ l1 t356 t357 _ ?side1 ?side2 A162.out).mono ?_); (case side1 => repeat (first | exact (Kd.C_below HR1.out HB.out) | (with_reducible refine Kd.C_alloc ?_ _) | (with_reducible refine Kd.C_drewN ?_ _) | (with_reducible refine Kd.C_drew ?_))); (case side2 => exact HC1.out); rintro e w174 ⟨v358, rfl, ho0, hb⟩; have n0_ := Aside0.mk (Kd.R_lower ho0 (below_size (by repeat (first | (with_reducible first | exact HB.out | apply below_alloc | apply pw_below_drewN | apply below_drew1) | exact HB.out)))); have n1_ := Aside0.mk (below_step (by repeat (first | (with_reducible first | exact HB.out | apply below_alloc | apply pw_below_drewN | apply below_drew1) | exact HB.out)) hb); clear HB; have HO359 := n0_; have HB := n1_; clear n0_ n1_; (try clear hb); (try clear hb2); (try clear hk); (try clear hi); (try clear ho0); obtain ⟨Ao175, co175, eo175⟩ := Kd.R_slice HO359.out; subst eo175) | (go_at_call 23; (with_reducible refine (impl_PlayMoves.calls kj89 t356 _ _ t357 t360 t361 _ ?side1 ?side2 A163.out).mono ?_); (case side1 => repeat (first | exact (Kd.R_reads' HO359.out).2.2 | (with_reducible refine Kd.C_alloc ?_ _) | (with_reducible refine Kd.C_drewN ?_ _) | (with_reducible refine Kd.C_drew ?_))); (case side2 => exact (Kd.R_reads' HO359.out).2.1); rintro e w176 ⟨rfl, hb⟩; have n0_ := Aside0.mk (Kd.R_below (by (with_reducible repeat (first | apply Kd.R_alloc | apply Kd.R_drewN | apply Kd.R_drew)); exact HO359.out) hb); have n1_ := Aside0.mk (below_step (by repeat (first | (with_reducible first | exact HB.out | apply below_alloc | apply pw_below_drewN | apply below_drew1) | exact HB.out)) hb); clear HO359; clear HB; have HO359 := n0_; have HB := n1_; clear n0_ n1_; (try clear hb); (try clear hb2); (try clear hk); (try clear hi)) | (go_at_call 24; (with_reducible refine (spec_PlayMoves.calls kj89 t356 _ _ t357 t362 t363 _ ?side1 ?side2 A164.out).mono ?_); (case side1 => repeat (first | exact (Kd.R_reads' HO359.out).2.2 | (with_reducible refine Kd.C_alloc ?_ _) | (with_reducible refine Kd.C_drewN ?_ _) | (with_reducible refine Kd.C_drew ?_))); (case side2 => exact (Kd.R_reads' HO359.out).2.1); rintro e w' ⟨rfl, ⟨nd, rfl⟩⟩; (try first | exact ⟨rfl, _, World.drewN_drewN _ _ _⟩ | exact ⟨rfl, _, Eq.trans (World.drewN_drewN _ _ _) (congrArg (World.drewN _) (Nat.add_assoc _ _ _))⟩)) | (go_at_call 25; (with_reducible refine (impl_MoveThatFails.calls kj89 t356 _ _ t357 t364 t365 _ ?side1 ?side2 A165.out).mono ?_); (case side1 => repeat (first | exact (Kd.R_reads' HO359.out).2.2 | (with_reducible refine Kd.C_alloc ?_ _) | (with_reducible refine Kd.C_drewN ?_ _) | (with_reducible refine Kd.C_drew ?_))); (case side2 => exact (Kd.R_reads' HO359.out).2.1); rintro e w177 ⟨rfl, hb⟩; have n0_ := Aside0.mk (Kd.R_below (by (with_reducible repeat (first | apply Kd.R_alloc | apply Kd.R_drewN | apply Kd.R_drew)); exact HO359.out) hb); have n1_ := Aside0.mk (below_step (by repeat (first | (with_reducible first | exact HB.out | apply below_alloc | apply pw_below_drewN | apply below_drew1) | exact HB.out)) hb); clear HO359; clear HB; have HO359 := n0_; have HB := n1_; clear n0_ n1_; (try clear hb); (try clear hb2); (try clear hk); (try clear hi)) | (go_at_call 26; (with_reducible refine (spec_MoveThatFails.calls kj89 t356 _ _ t357 t366 t367 _ ?side1 ?side2 A166.out).mono ?_); (case side1 => repeat (first | exact (Kd.R_reads' HO359.out).2.2 | (with_reducible refine Kd.C_alloc ?_ _) | (with_reducible refine Kd.C_drewN ?_ _) | (with_reducible refine Kd.C_drew ?_))); (case side2 => exact (Kd.R_reads' HO359.out).2.1); rintro e w' ⟨rfl, ⟨nd, rfl⟩⟩; (try first | exact ⟨rfl, _, World.drewN_drewN _ _ _⟩ | exact ⟨rfl, _, Eq.trans (World.drewN_drewN _ _ _) (congrArg (World.drewN _) (Nat.add_assoc _ _ _))⟩)) | (go_at_call 27; (with_reducible refine (spec_DrawMoveRing.calls kj89 _ _ l1 t368 t369 _ ?side1 ?side2 A167.out).mono ?_); (case side1 => repeat (first | exact (Kd.C_below HR1.out (by repeat (first | (with_reducible first | exact HB.out | apply below_alloc | apply pw_below_drewN | apply below_drew1) | exact HB.out))) | (with_reducible refine Kd.C_alloc ?_ _) | (with_reducible refine Kd.C_drewN ?_ _) | (with_reducible refine Kd.C_drew ?_))); (case side2 => exact HC1.out); rintro e w178 ⟨rfl, hb⟩; have n0_ := Aside0.mk (Kd.R_below (by (with_reducible repeat (first | apply Kd.R_alloc | apply Kd.R_drewN | apply Kd.R_drew)); exact HO359.out) hb); have n1_ := Aside0.mk (below_step (by repeat (first | (with_reducible first | exact HB.out | apply below_alloc | apply pw_below_drewN | apply below_drew1) | exact HB.out)) hb); clear HO359; clear HB; have HO359 := n0_; have HB := n1_; clear n0_ n1_; (try clear hb); (try clear hb2); (try clear hk); (try clear hi)) | (go_at_call 19; (with_reducible refine (impl_MoveRing.calls t368 t369 t370 t371 _ A168.out).mono ?_); rintro e w179 ⟨rfl, hb⟩; have n0_ := Aside0.mk (Kd.R_below (by (with_reducible repeat (first | apply Kd.R_alloc | apply Kd.R_drewN | apply Kd.R_drew)); exact HO359.out) hb); have n1_ := Aside0.mk (below_step (by repeat (first | (with_reducible first | exact HB.out | apply below_alloc | apply pw_below_drewN | apply below_drew1) | exact HB.out)) hb); clear HO359; clear HB; have HO359 := n0_; have HB := n1_; clear n0_ n1_; (try clear hb); (try clear hb2); (try clear hk); (try clear hi)) | (go_at_call 28; (with_reducible refine (spec_MoveRing.calls kj89 t368 t369 t372 t373 _ A169.out).mono ?_); rintro e w' ⟨rfl, ⟨nd, rfl⟩⟩; (try first | exact ⟨rfl, _, World.drewN_drewN _ _ _⟩ | exact ⟨rfl, _, Eq.trans (World.drewN_drewN _ _ _) (congrArg (World.drewN _) (Nat.add_assoc _ _ _))⟩)) | (go_at_call 29; (with_reducible refine (spec_DrawStateOfNumber.calls _ _ l1 t374 t375 _ ?side1 ?side2 A170.out).mono ?_); (case side1 => repeat (first | exact (Kd.C_below HR1.out (by repeat (first | (with_reducible first | exact HB.out | apply below_alloc | apply pw_below_drewN | apply below_drew1) | exact HB.out))) | (with_reducible refine Kd.C_alloc ?_ _) | (with_reducible refine Kd.C_drewN ?_ _) | (with_reducible refine Kd.C_drew ?_))); (case side2 => exact HC1.out); rintro e w180 ⟨rfl, hb⟩; have n0_ := Aside0.mk (Kd.R_below (by (with_reducible repeat (first | apply Kd.R_alloc | apply Kd.R_drewN | apply Kd.R_drew)); exact HO359.out) hb); have n1_ := Aside0.mk (below_step (by repeat (first | (with_reducible first | exact HB.out | apply below_alloc | apply pw_below_drewN | apply below_drew1) | exact HB.out)) hb); clear HO359; clear HB; have HO359 := n0_; have HB := n1_; clear n0_ n1_; (try clear hb); (try clear hb2); (try clear hk); (try clear hi)) | (go_at_call 18; (with_reducible refine (impl_StateOfNumber.calls kj89 t374 t375 t376 t377 _ A171.out).mono ?_); rintro e w181 ⟨rfl, hb⟩; have n0_ := Aside0.mk (Kd.R_below (by (with_reducible repeat (first | apply Kd.R_alloc | apply Kd.R_drewN | apply Kd.R_drew)); exact HO359.out) hb); have n1_ := Aside0.mk (below_step (by repeat (first | (with_reducible first | exact HB.out | apply below_alloc | apply pw_below_drewN | apply below_drew1) | exact HB.out)) hb); clear HO359; clear HB; have HO359 := n0_; have HB := n1_; clear n0_ n1_; (try clear hb); (try clear hb2); (try clear hk); (try clear hi)) | (go_at_call 30; (with_reducible refine (spec_StateOfNumber.calls kj89 t374 t375 t378 t379 _ A172.out).mono ?_); rintro e w' ⟨rfl, ⟨nd, rfl⟩⟩; (try first | exact ⟨rfl, _, World.drewN_drewN _ _ _⟩ | exact ⟨rfl, _, Eq.trans (World.drewN_drewN _ _ _) (congrArg (World.drewN _) (Nat.add_assoc _ _ _))⟩)))
  repeat (go_quiet (first | (go_at_call 22; (with_reducible refine (spec_DrawPlayMoves.calls kj89 _ _ l1 t356 t357 _ ?side1 ?side2 A162.out).mono ?_); (case side1 => repeat (first | exact (Kd.C_below HR1.out HB.out) | (with_reducible refine Kd.C_alloc ?_ _) | (with_reducible refine Kd.C_drewN ?_ _) | (with_reducible refine Kd.C_drew ?_))); (case side2 => exact HC1.out); rintro e w174 ⟨v358, rfl, ho0, hb⟩; have n0_ := Aside0.mk (Kd.R_lower ho0 (below_size (by repeat (first | (with_reducible first | exact HB.out | apply below_alloc | apply pw_below_drewN | apply below_drew1) | exact HB.out)))); have n1_ := Aside0.mk (below_step (by repeat (first | (with_reducible first | exact HB.out | apply below_alloc | apply pw_below_drewN | apply below_drew1) | exact HB.out)) hb); clear HB; have HO359 := n0_; have HB := n1_; clear n0_ n1_; (try clear hb); (try clear hb2); (try clear hk); (try clear hi); (try clear ho0); obtain ⟨Ao175, co175, eo175⟩ := Kd.R_slice HO359.out; subst eo175) | (go_at_call 23; (with_reducible refine (impl_PlayMoves.calls kj89 t356 _ _ t357 t360 t361 _ ?side1 ?side2 A163.out).mono ?_); (case side1 => repeat (first | exact (Kd.R_reads' HO359.out).2.2 | (with_reducible refine Kd.C_alloc ?_ _) | (with_reducible refine Kd.C_drewN ?_ _) | (with_reducible refine Kd.C_drew ?_))); (case side2 => exact (Kd.R_reads' HO359.out).2.1); rintro e w176 ⟨rfl, hb⟩; have n0_ := Aside0.mk (Kd.R_below (by (with_reducible repeat (first | apply Kd.R_alloc | apply Kd.R_drewN | apply Kd.R_drew)); exact HO359.out) hb); have n1_ := Aside0.mk (below_step (by repeat (first | (with_reducible first | exact HB.out | apply below_alloc | apply pw_below_drewN | apply below_drew1) | exact HB.out)) hb); clear HO359; clear HB; have HO359 := n0_; have HB := n1_; clear n0_ n1_; (try clear hb); (try clear hb2); (try clear hk); (try clear hi)) | (go_at_call 24; (with_reducible refine (spec_PlayMoves.calls kj89 t356 _ _ t357 t362 t363 _ ?side1 ?side2 A164.out).mono ?_); (case side1 => repeat (first | exact (Kd.R_reads' HO359.out).2.2 | (with_reducible refine Kd.C_alloc ?_ _) | (with_reducible refine Kd.C_drewN ?_ _) | (with_reducible refine Kd.C_drew ?_))); (case side2 => exact (Kd.R_reads' HO359.out).2.1); rintro e w' ⟨rfl, ⟨nd, rfl⟩⟩; (try first | exact ⟨rfl, _, World.drewN_drewN _ _ _⟩ | exact ⟨rfl, _, Eq.trans (World.drewN_drewN _ _ _) (congrArg (World.drewN _) (Nat.add_assoc _ _ _))⟩)) | (go_at_call 25; (with_reducible refine (impl_MoveThatFails.calls kj89 t356 _ _ t357 t364 t365 _ ?side1 ?side2 A165.out).mono ?_); (case side1 => repeat (first | exact (Kd.R_reads' HO359.out).2.2 | (with_reducible refine Kd.C_alloc ?_ _) | (with_reducible refine Kd.C_drewN ?_ _) | (with_reducible refine Kd.C_drew ?_))); (case side2 => exact (Kd.R_reads' HO359.out).2.1); rintro e w177 ⟨rfl, hb⟩; have n0_ := Aside0.mk (Kd.R_below (by (with_reducible repeat (first | apply Kd.R_alloc | apply Kd.R_drewN | apply Kd.R_drew)); exact HO359.out) hb); have n1_ := Aside0.mk (below_step (by repeat (first | (with_reducible first | exact HB.out | apply below_alloc | apply pw_below_drewN | apply below_drew1) | exact HB.out)) hb); clear HO359; clear HB; have HO359 := n0_; have HB := n1_; clear n0_ n1_; (try clear hb); (try clear hb2); (try clear hk); (try clear hi)) | (go_at_call 26; (with_reducible refine (spec_MoveThatFails.calls kj89 t356 _ _ t357 t366 t367 _ ?side1 ?side2 A166.out).mono ?_); (case side1 => repeat (first | exact (Kd.R_reads' HO359.out).2.2 | (with_reducible refine Kd.C_alloc ?_ _) | (with_reducible refine Kd.C_drewN ?_ _) | (with_reducible refine Kd.C_drew ?_))); (case side2 => exact (Kd.R_reads' HO359.out).2.1); rintro e w' ⟨rfl, ⟨nd, rfl⟩⟩; (try first | exact ⟨rfl, _, World.drewN_drewN _ _ _⟩ | exact ⟨rfl, _, Eq.trans (World.drewN_drewN _ _ _) (congrArg (World.drewN _) (Nat.add_assoc _ _ _))⟩)) | (go_at_call 27; (with_reducible refine (spec_DrawMoveRing.calls kj89 _ _ l1 t368 t369 _ ?side1 ?side2 A167.out).mono ?_); (case side1 => repeat (first | exact (Kd.C_below HR1.out (by repeat (first | (with_reducible first | exact HB.out | apply below_alloc | apply pw_below_drewN | apply below_drew1) | exact HB.out))) | (with_reducible refine Kd.C_alloc ?_ _) | (with_reducible refine Kd.C_drewN ?_ _) | (with_reducible refine Kd.C_drew ?_))); (case side2 => exact HC1.out); rintro e w178 ⟨rfl, hb⟩; have n0_ := Aside0.mk (Kd.R_below (by (with_reducible repeat (first | apply Kd.R_alloc | apply Kd.R_drewN | apply Kd.R_drew)); exact HO359.out) hb); have n1_ := Aside0.mk (below_step (by repeat (first | (with_reducible first | exact HB.out | apply below_alloc | apply pw_below_drewN | apply below_drew1) | exact HB.out)) hb); clear HO359; clear HB; have HO359 := n0_; have HB := n1_; clear n0_ n1_; (try clear hb); (try clear hb2); (try clear hk); (try clear hi)) | (go_at_call 19; (with_reducible refine (impl_MoveRing.calls t368 t369 t370 t371 _ A168.out).mono ?_); rintro e w179 ⟨rfl, hb⟩; have n0_ := Aside0.mk (Kd.R_below (by (with_reducible repeat (first | apply Kd.R_alloc | apply Kd.R_drewN | apply Kd.R_drew)); exact HO359.out) hb); have n1_ := Aside0.mk (below_step (by repeat (first | (with_reducible first | exact HB.out | apply below_alloc | apply pw_below_drewN | apply below_drew1) | exact HB.out)) hb); clear HO359; clear HB; have HO359 := n0_; have HB := n1_; clear n0_ n1_; (try clear hb); (try clear hb2); (try clear hk); (try clear hi)) | (go_at_call 28; (with_reducible refine (spec_MoveRing.calls kj89 t368 t369 t372 t373 _ A169.out).mono ?_); rintro e w' ⟨rfl, ⟨nd, rfl⟩⟩; (try first | exact ⟨rfl, _, World.drewN_drewN _ _ _⟩ | exact ⟨rfl, _, Eq.trans (World.drewN_drewN _ _ _) (congrArg (World.drewN _) (Nat.add_assoc _ _ _))⟩)) | (go_at_call 29; (with_reducible refine (spec_DrawStateOfNumber.calls _ _ l1 t374 t375 _ ?side1 ?side2 A170.out).mono ?_); (case side1 => repeat (first | exact (Kd.C_below HR1.out (by repeat (first | (with_reducible first | exact HB.out | apply below_alloc | apply pw_below_drewN | apply below_drew1) | exact HB.out))) | (with_reducible refine Kd.C_alloc ?_ _) | (with_reducible refine Kd.C_drewN ?_ _) | (with_reducible refine Kd.C_drew ?_))); (case side2 => exact HC1.out); rintro e w180 ⟨rfl, hb⟩; have n0_ := Aside0.mk (Kd.R_below (by (with_reducible repeat (first | apply Kd.R_alloc | apply Kd.R_drewN | apply Kd.R_drew)); exact HO359.out) hb); have n1_ := Aside0.mk (below_step (by repeat (first | (with_reducible first | exact HB.out | apply below_alloc | apply pw_below_drewN | apply below_drew1) | exact HB.out)) hb); clear HO359; clear HB; have HO359 := n0_; have HB := n1_; clear n0_ n1_; (try clear hb); (try clear hb2); (try clear hk); (try clear hi)) | (go_at_call 18; (with_reducible refine (impl_StateOfNumber.calls kj89 t374 t375 t376 t377 _ A171.out).mono ?_); rintro e w181 ⟨rfl, hb⟩; have n0_ := Aside0.mk (Kd.R_below (by (with_reducible repeat (first | apply Kd.R_alloc | apply Kd.R_drewN | apply Kd.R_drew)); exact HO359.out) hb); have n1_ := Aside0.mk (below_step (by repeat (first | (with_reducible first | exact HB.out | apply below_alloc | apply pw_below_drewN | apply below_drew1) | exact HB.out)) hb); clear HO359; clear HB; have HO359 := n0_; have HB := n1_; clear n0_ n1_; (try clear hb); (try clear hb2); (try clear hk); (try clear hi)) | (go_at_call 30; (with_reducible refine (spec_StateOfNumber.calls kj89 t374 t375 t378 t379 _ A172.out).mono ?_); rintro e w' ⟨rfl, ⟨nd, rfl⟩⟩; (try first | exact ⟨rfl, _, World.drewN_drewN _ _ _⟩ | exact ⟨rfl, _, Eq.trans (World.drewN_drewN _ _ _) (congrArg (World.drewN _) (Nat.add_assoc _ _ _))⟩))); go_upto_region 50 with (first | (go_at_call 22; (with_reducible refine (spec_DrawPlayMoves.calls kj89 _ _ l1 t356 t357 _ ?side1 ?side2 A162.out).mono ?_); (case side1 => repeat (first | exact (Kd.C_below HR1.out HB.out) | (with_reducible refine Kd.C_alloc ?_ _) | (with_reducible refine Kd.C_drewN ?_ _) | (with_reducible refine Kd.C_drew ?_))); (case side2 => exact HC1.out); rintro e w174 ⟨v358, rfl, ho0, hb⟩; have n0_ := Aside0.mk (Kd.R_lower ho0 (below_size (by repeat (first | (with_reducible first | exact HB.out | apply below_alloc | apply pw_below_drewN | apply below_drew1) | exact HB.out)))); have n1_ := Aside0.mk (below_step (by repeat (first | (with_reducible first | exact HB.out | apply below_alloc | apply pw_below_drewN | apply below_drew1) | exact HB.out)) hb); clear HB; have HO359 := n0_; have HB := n1_; clear n0_ n1_; (try clear hb); (try clear hb2); (try clear hk); (try clear hi); (try clear ho0); obtain ⟨Ao175, co175, eo175⟩ := Kd.R_slice HO359.out; subst eo175) | (go_at_call 23; (with_reducible refine (impl_PlayMoves.calls kj89 t356 _ _ t357 t360 t361 _ ?side1 ?side2 A163.out).mono ?_); (case side1 => repeat (first | exact (Kd.R_reads' HO359.out).2.2 | (with_reducible refine Kd.C_alloc ?_ _) | (with_reducible refine Kd.C_drewN ?_ _) | (with_reducible refine Kd.C_drew ?_))); (case side2 => exact (Kd.R_reads' HO359.out).2.1); rintro e w176 ⟨rfl, hb⟩; have n0_ := Aside0.mk (Kd.R_below (by (with_reducible repeat (first | apply Kd.R_alloc | apply Kd.R_drewN | apply Kd.R_drew)); exact HO359.out) hb); have n1_ := Aside0.mk (below_step (by repeat (first | (with_reducible first | exact HB.out | apply below_alloc | apply pw_below_drewN | apply below_drew1) | exact HB.out)) hb); clear HO359; clear HB; have HO359 := n0_; have HB := n1_; clear n0_ n1_; (try clear hb); (try clear hb2); (try clear hk); (try clear hi)) | (go_at_call 24; (with_reducible refine (spec_PlayMoves.calls kj89 t356 _ _ t357 t362 t363 _ ?side1 ?side2 A164.out).mono ?_); (case side1 => repeat (first | exact (Kd.R_reads' HO359.out).2.2 | (with_reducible refine Kd.C_alloc ?_ _) | (with_reducible refine Kd.C_drewN ?_ _) | (with_reducible refine Kd.C_drew ?_))); (case side2 => exact (Kd.R_reads' HO359.out).2.1); rintro e w' ⟨rfl, ⟨nd, rfl⟩⟩; (try first | exact ⟨rfl, _, World.drewN_drewN _ _ _⟩ | exact ⟨rfl, _, Eq.trans (World.drewN_drewN _ _ _) (congrArg (World.drewN _) (Nat.add_assoc _ _ _))⟩)) | (go_at_call 25; (with_reducible refine (impl_MoveThatFails.calls kj89 t356 _ _ t357 t364 t365 _ ?side1 ?side2 A165.out).mono ?_); (case side1 => repeat (first | exact (Kd.R_reads' HO359.out).2.2 | (with_reducible refine Kd.C_alloc ?_ _) | (with_reducible refine Kd.C_drewN ?_ _) | (with_reducible refine Kd.C_drew ?_))); (case side2 => exact (Kd.R_reads' HO359.out).2.1); rintro e w177 ⟨rfl, hb⟩; have n0_ := Aside0.mk (Kd.R_below (by (with_reducible repeat (first | apply Kd.R_alloc | apply Kd.R_drewN | apply Kd.R_drew)); exact HO359.out) hb); have n1_ := Aside0.mk (below_step (by repeat (first | (with_reducible first | exact HB.out | apply below_alloc | apply pw_below_drewN | apply below_drew1) | exact HB.out)) hb); clear HO359; clear HB; have HO359 := n0_; have HB := n1_; clear n0_ n1_; (try clear hb); (try clear hb2); (try clear hk); (try clear hi)) | (go_at_call 26; (with_reducible refine (spec_MoveThatFails.calls kj89 t356 _ _ t357 t366 t367 _ ?side1 ?side2 A166.out).mono ?_); (case side1 => repeat (first | exact (Kd.R_reads' HO359.out).2.2 | (with_reducible refine Kd.C_alloc ?_ _) | (with_reducible refine Kd.C_drewN ?_ _) | (with_reducible refine Kd.C_drew ?_))); (case side2 => exact (Kd.R_reads' HO359.out).2.1); rintro e w' ⟨rfl, ⟨nd, rfl⟩⟩; (try first | exact ⟨rfl, _, World.drewN_drewN _ _ _⟩ | exact ⟨rfl, _, Eq.trans (World.drewN_drewN _ _ _) (congrArg (World.drewN _) (Nat.add_assoc _ _ _))⟩)) | (go_at_call 27; (with_reducible refine (spec_DrawMoveRing.calls kj89 _ _ l1 t368 t369 _ ?side1 ?side2 A167.out).mono ?_); (case side1 => repeat (first | exact (Kd.C_below HR1.out (by repeat (first | (with_reducible first | exact HB.out | apply below_alloc | apply pw_below_drewN | apply below_drew1) | exact HB.out))) | (with_reducible refine Kd.C_alloc ?_ _) | (with_reducible refine Kd.C_drewN ?_ _) | (with_reducible refine Kd.C_drew ?_))); (case side2 => exact HC1.out); rintro e w178 ⟨rfl, hb⟩; have n0_ := Aside0.mk (Kd.R_below (by (with_reducible repeat (first | apply Kd.R_alloc | apply Kd.R_drewN | apply Kd.R_drew)); exact HO359.out) hb); have n1_ := Aside0.mk (below_step (by repeat (first | (with_reducible first | exact HB.out | apply below_alloc | apply pw_below_drewN | apply below_drew1) | exact HB.out)) hb); clear HO359; clear HB; have HO359 := n0_; have HB := n1_; clear n0_ n1_; (try clear hb); (try clear hb2); (try clear hk); (try clear hi)) | (go_at_call 19; (with_reducible refine (impl_MoveRing.calls t368 t369 t370 t371 _ A168.out).mono ?_); rintro e w179 ⟨rfl, hb⟩; have n0_ := Aside0.mk (Kd.R_below (by (with_reducible repeat (first | apply Kd.R_alloc | apply Kd.R_drewN | apply Kd.R_drew)); exact HO359.out) hb); have n1_ := Aside0.mk (below_step (by repeat (first | (with_reducible first | exact HB.out | apply below_alloc | apply pw_below_drewN | apply below_drew1) | exact HB.out)) hb); clear HO359; clear HB; have HO359 := n0_; have HB := n1_; clear n0_ n1_; (try clear hb); (try clear hb2); (try clear hk); (try clear hi)) | (go_at_call 28; (with_reducible refine (spec_MoveRing.calls kj89 t368 t369 t372 t373 _ A169.out).mono ?_); rintro e w' ⟨rfl, ⟨nd, rfl⟩⟩; (try first | exact ⟨rfl, _, World.drewN_drewN _ _ _⟩ | exact ⟨rfl, _, Eq.trans (World.drewN_drewN _ _ _) (congrArg (World.drewN _) (Nat.add_assoc _ _ _))⟩)) | (go_at_call 29; (with_reducible refine (spec_DrawStateOfNumber.calls _ _ l1 t374 t375 _ ?side1 ?side2 A170.out).mono ?_); (case side1 => repeat (first | exact (Kd.C_below HR1.out (by repeat (first | (with_reducible first | exact HB.out | apply below_alloc | apply pw_below_drewN | apply below_drew1) | exact HB.out))) | (with_reducible refine Kd.C_alloc ?_ _) | (with_reducible refine Kd.C_drewN ?_ _) | (with_reducible refine Kd.C_drew ?_))); (case side2 => exact HC1.out); rintro e w180 ⟨rfl, hb⟩; have n0_ := Aside0.mk (Kd.R_below (by (with_reducible repeat (first | apply Kd.R_alloc | apply Kd.R_drewN | apply Kd.R_drew)); exact HO359.out) hb); have n1_ := Aside0.mk (below_step (by repeat (first | (with_reducible first | exact HB.out | apply below_alloc | apply pw_below_drewN | apply below_drew1) | exact HB.out)) hb); clear HO359; clear HB; have HO359 := n0_; have HB := n1_; clear n0_ n1_; (try clear hb); (try clear hb2); (try clear hk); (try clear hi)) | (go_at_call 18; (with_reducible refine (impl_StateOfNumber.calls kj89 t374 t375 t376 t377 _ A171.out).mono ?_); rintro e w181 ⟨rfl, hb⟩; have n0_ := Aside0.mk (Kd.R_below (by (with_reducible repeat (first | apply Kd.R_alloc | apply Kd.R_drewN | apply Kd.R_drew)); exact HO359.out) hb); have n1_ := Aside0.mk (below_step (by repeat (first | (with_reducible first | exact HB.out | apply below_alloc | apply pw_below_drewN | apply below_drew1) | exact HB.out)) hb); clear HO359; clear HB; have HO359 := n0_; have HB := n1_; clear n0_ n1_; (try clear hb); (try clear hb2); (try clear hk); (try clear hi)) | (go_at_call 30; (with_reducible refine (spec_StateOfNumber.calls kj89 t374 t375 t378 t379 _ A172.out).mono ?_); rintro e w' ⟨rfl, ⟨nd, rfl⟩⟩; (try first | exact ⟨rfl, _, World.drewN_drewN _ _ _⟩ | exact ⟨rfl, _, Eq.trans (World.drewN_drewN _ _ _) (congrArg (World.drewN _) (Nat.add_assoc _ _ _))⟩))))
  (try simp only [Act.put, List.setIfInBounds_toArray, List.set_cons_zero, List.set_cons_succ])
  refine wp_cutF [o_,o_,o_,o_,o_,o_,o_,o_,o_,o_,o_,o_,o_,o_,o_,o_,o_,o_,o_,o_,o_,o_,o_,o_,o_,o_,o_,o_,o_,o_,o_,o_,o_,o_,o_,o_,o_,o_,o_,o_,o_,o_,o_,o_,o_,o_,o_,o_,o_,o_,o_,o_,o_,o_,o_,o_,o_,o_,o_,o_,o_,o_,o_,o_,o_,o_,o_,o_,o_,o_,o_,o_,i_,i_,i_,i_,i_,i_,i_,i_,i_,i_,i_,i_,i_,i_,i_,i_,i_,i_,i_,i_,i_,i_,i_,i_,i_,i_,i_,i_,i_,i_,i_,i_,i_,i_,i_,i_,i_,i_,i_,i_,i_,i_,i_,i_,i_,i_,i_,i_,i_,i_,i_,i_,i_,i_,i_,i_,i_,i_,i_,i_,i_,i_,i_,i_,i_,i_,i_,i_,i_,i_,i_,i_,i_,i_,i_,i_,i_,i_,i_,i_,i_,i_,i_,i_,i_,i_,i_,i_,i_,i_,i_,i_,i_,i_,i_,i_,i_,i_,i_,i_,i_,i_,i_,i_,i_,i_,i_,i_,i_,i_,i_,i_,i_,i_,i_,i_,i_,i_,i_,i_,i_,i_,i_,i_,i_,i_,i_,i_,i_,i_,i_,i_,i_,i_,i_,i_,i_,i_,i_,i_,i_,i_,i_,i_,i_,i_,i_,i_,i_,i_,i_,i_,i_,i_,i_,i_,i_,i_,i_,i_,i_,i_,i_,i_,i_,i_,i_,i_,i_,i_,i_,i_,i_,i_,i_,i_,i_,i_,i_,i_,i_,i_,i_,i_,i_,i_,i_,i_,o_,o_,o_,i_,i_,i_,i_,i_,i_,i_,i_,i_,i_,i_,i_,i_,i_,i_,i_,i_,i_,i_,i_,i_,i_,i_,i_,i_,i_,i_,i_,i_,i_,i_,i_,i_,i_,i_,i_,i_,i_,i_,i_,i_,i_,i_,o_,o_,i_,i_,i_,i_,i_,i_,i_,i_,i_,i_,i_,i_,i_,i_,o_,o_,o_,i_,i_,i_,i_,i_,i_,i_,i_,i_,i_,i_,i_,i_,i_,i_,i_,i_,i_,i_,i_,i_,i_,i_,i_,i_,i_,i_,i_,i_,i_,i_,i_,i_,i_,i_,i_,i_,i_,i_,i_,i_,i_,i_,i_,i_,i_,i_,i_,i_,i_,i_,i_,i_,i_,i_,i_,i_,i_,i_,i_,i_,i_,i_,i_,i_,i_,i_,i_,i_,i_,i_,i_,i_,i_,i_,i_,i_,i_,i_,i_,i_,i_,i_,i_,i_,i_,i_,i_,i_,i_,i_,i_,i_,i_,i_,i_,i_,i_,i_,i_,i_,i_,i_,i_,i_,i_,i_,i_,i_,i_,i_,i_,i_,i_,i_,i_,i_,i_,i_,i_,i_,i_,i_,i_,i_,i_,o_,o_,o_,i_,i_,i_,i_,i_,i_,i_,i_,i_,i_,i_,i_,i_,i_,i_,i_,i_,i_,i_,i_,i_,i_,i_,i_,i_,i_,i_,i_,i_,i_,i_,i_,i_,i_,i_,i_,i_,i_,i_,i_,i_,i_,i_,i_,i_,i_,i_,i_,i_,i_,i_,i_,i_,i_,i_] (fun f_ wc => ∃ (kq : Nat) (x448_172 : Bool), (f_ 448) = .bool x448_172 ∧ Aside0 (laws_FnRingsMove.j7 kq t356 t357 t360 t361 t364 t365 t374 t375 t376 t377 x448_172 = some r) ∧ Aside0 (kq ≤ kj89) ∧ Aside0 (Kd.R (Kd.int .i64) 3 wc w.heap.size (fun _ => True) (.slice Ao175 t357.length co175) t357) ∧ Aside0 (Below w.heap.size w wc)) ?rest ?first
  case first =>
   intro J_ K_ hJ_ hK_
   repeat revert ‹_›
   intro HP0_ HP1_
   exact HP0_.out
  case rest =>
   intro f_ wc hcut
   dsimp only [maskF] at hcut ⊢
   generalize f_ 448 = u448 at hcut ⊢
   repeat revert ‹_›
   intro HP0_ HP1_
   exact HP1_.out

theorem laws_FnRingsMove.c15 : laws_FnRingsMove.c14.1 := by
 intro k A0 c0 l0 A1 c1 l1 r w HR0 HC0 HR1 HC1 A3 t310 A5 t311 t312 A6 t315 t316 A7 t319 t320 A8 t321 t322 A9 t323 t324 A10 t325 t326 A11 t327 t328 t329 A12 t332 t333 t334 A13 _ _ w15 w16 v313 w17 v317 w18 _ w19 _ w20 v330 w21 v335 HO314 HO318 HO331 HO336 _ _ _ HO_6 HO_18 _ kj13 HJ13 f_ wc kj89 HJ89 t356 t357 A162 t360 t361 A163 t362 t363 A164 t364 t365 A165 t366 t367 A166 t368 t369 A167 t370 t371 A168 t372 t373 A169 t374 t375 A170 t376 t377 A171 t378 t379 A172 HC173 w174 Ao175 co175 w176 _ w177 _ w178 w179 _ w180 w181 HO359 HB nd _ _ _ _ J_ K_ hJ_ hK_
 have H := HC173.out
 clear HC173
 by_cases c182 : (t361 != t363) = true
 ·rw [if_pos c182] at H
  have c182b0 : (t361 != t363) = true := c182
  (try (have c182b1 : decide (t361 = t363) = false := by simpa using c182))
  (try (have c182b2 : (t361 == t363) = false := by simpa using c182))
  (try (have c182b3 : ¬ (t361 = t363) := by simpa using c182))
  clear c182
  (first | rw [c182b0] | (simp only [i64_w, i32_w]; rw [c182b0]) | skip)
  have H' := Aside0.mk H
  clear H
  go_wp2
  repeat (go_quiet (fail); try go_wp2)
  refine Met.intro (hJ_ _ _ ?mg_ ?rel)
  case mg_ => kernel_rfl
  case rel => exact ⟨_, (true), (by first | rfl | ((conv => lhs; whnf); first | rfl | (simp; done) | (simp [*]; done))), H', ⟨by have := HJ13.out; have := HJ89.out; first | omega | exact Nat.le_refl _⟩, ⟨by (with_reducible repeat (first | apply Kd.R_alloc | apply Kd.R_drewN | apply Kd.R_drew)); exact HO359.out⟩, ⟨by repeat (first | (with_reducible first | exact HB.out | apply below_alloc | apply pw_below_drewN | apply below_drew1) | exact HB.out)⟩⟩
 ·rw [if_neg c182] at H
  have c182b0 : (t361 != t363) = false := by simpa using c182
  (try (have c182b1 : decide (t361 = t363) = true := by simpa using c182))
  (try (have c182b2 : (t361 == t363) = true := by simpa using c182))
  clear c182
  (try (have c182e : t361 = t363 := by first | simpa using c182b0 | (simpa using (bne_eq_false_iff_eq.mp c182b0).symm)); (subst c182e))
  (first | rw [c182b0] | (simp only [i64_w, i32_w]; rw [c182b0]) | skip)
  by_cases c183 : t360.toList = t362.toList
  ·rw [if_pos c183] at H
   have c183b0 : (t360.toList == t362.toList) = true := beq_iff_eq.mpr c183
   have c183b1 : (t360.toList != t362.toList) = false := bne_eq_false_iff_eq.mpr c183
   (try (have c183n1 : (!(t360.toList == t362.toList)) = false := c183b1))
   clear c183
   by_cases c184 : (t365 != t367) = true
   ·rw [if_pos c184] at H
    have c184b0 : (t365 != t367) = true := c184
    (try (have c184b1 : decide (t365 = t367) = false := by simpa using c184))
    (try (have c184b2 : (t365 == t367) = false := by simpa using c184))
    (try (have c184b3 : ¬ (t365 = t367) := by simpa using c184))
    clear c184
    have H' := Aside0.mk H
    clear H
    go_wp2
    repeat (go_quiet (fail); try go_wp2)
    refine Met.intro (hJ_ _ _ ?mg_ ?rel)
    case mg_ => kernel_rfl
    case rel => exact ⟨_, (true), (by first | rfl | ((conv => lhs; whnf); first | rfl | (simp; done) | (simp [*]; done))), H', ⟨by have := HJ13.out; have := HJ89.out; first | omega | exact Nat.le_refl _⟩, ⟨by (with_reducible repeat (first | apply Kd.R_alloc | apply Kd.R_drewN | apply Kd.R_drew)); exact HO359.out⟩, ⟨by repeat (first | (with_reducible first | exact HB.out | apply below_alloc | apply pw_below_drewN | apply below_drew1) | exact HB.out)⟩⟩
   ·rw [if_neg c184] at H
    have c184b0 : (t365 != t367) = false := by simpa using c184
    (try (have c184b1 : decide (t365 = t367) = true := by simpa using c184))
    (try (have c184b2 : (t365 == t367) = true := by simpa using c184))
    clear c184
    (try (have c184e : t365 = t367 := by first | simpa using c184b0 | (simpa using (bne_eq_false_iff_eq.mp c184b0).symm)); (subst c184e))
    by_cases c185 : t364 = t366
    ·rw [if_pos c185] at H
     have c185b0 : (t364 == t366) = true := beq_iff_eq.mpr c185
     have c185b1 : (t364 != t366) = false := bne_eq_false_iff_eq.mpr c185
     clear c185
     by_cases c186 : t361 = true
     ·subst c186
      rw [if_pos rfl] at H
      have H1 := H
      clear H
      have H := H1
      clear H1
      by_cases c187 : t365 = true
      ·subst c187
       rw [if_pos rfl] at H
       have H1 := H
       clear H
       have H := H1
       clear H1
       have H' := Aside0.mk H
       clear H
       go_wp2
       repeat (go_quiet (fail); try go_wp2)
       refine Met.intro (hJ_ _ _ ?mg_ ?rel)
       case mg_ => kernel_rfl
       case rel => exact ⟨_, (true), (by first | rfl | ((conv => lhs; whnf); first | rfl | (simp; done) | (simp [*]; done))), H', ⟨by have := HJ13.out; have := HJ89.out; first | omega | exact Nat.le_refl _⟩, ⟨by (with_reducible repeat (first | apply Kd.R_alloc | apply Kd.R_drewN | apply Kd.R_drew)); exact HO359.out⟩, ⟨by repeat (first | (with_reducible first | exact HB.out | apply below_alloc | apply pw_below_drewN | apply below_drew1) | exact HB.out)⟩⟩
      ·replace c187 := Bool.eq_false_iff.mpr c187
       subst c187
       rw [if_neg (show ¬ (false = true) by decide)] at H
       have H1 := H
       clear H
       have H := H1
       clear H1
       by_cases c188 : (t371 != t373) = true
       ·rw [if_pos c188] at H
        have c188b0 : (t371 != t373) = true := c188
        (try (have c188b1 : decide (t371 = t373) = false := by simpa using c188))
        (try (have c188b2 : (t371 == t373) = false := by simpa using c188))
        (try (have c188b3 : ¬ (t371 = t373) := by simpa using c188))
        clear c188
        have H' := Aside0.mk H
        clear H
        go_wp2
        repeat (go_quiet (fail); try go_wp2)
        refine Met.intro (hJ_ _ _ ?mg_ ?rel)
        case mg_ => kernel_rfl
        case rel => exact ⟨_, (true), (by first | rfl | ((conv => lhs; whnf); first | rfl | (simp; done) | (simp [*]; done))), H', ⟨by have := HJ13.out; have := HJ89.out; first | omega | exact Nat.le_refl _⟩, ⟨by (with_reducible repeat (first | apply Kd.R_alloc | apply Kd.R_drewN | apply Kd.R_drew)); exact HO359.out⟩, ⟨by repeat (first | (with_reducible first | exact HB.out | apply below_alloc | apply pw_below_drewN | apply below_drew1) | exact HB.out)⟩⟩
       ·rw [if_neg c188] at H
        have c188b0 : (t371 != t373) = false := by simpa using c188
        (try (have c188b1 : decide (t371 = t373) = true := by simpa using c188))
        (try (have c188b2 : (t371 == t373) = true := by simpa using c188))
        clear c188
        (try (have c188e : t371 = t373 := by first | simpa using c188b0 | (simpa using (bne_eq_false_iff_eq.mp c188b0).symm)); (subst c188e))
        by_cases c189 : t370.toList = t372.toList
        ·rw [if_pos c189] at H
         have c189b0 : (t370.toList == t372.toList) = true := beq_iff_eq.mpr c189
         have c189b1 : (t370.toList != t372.toList) = false := bne_eq_false_iff_eq.mpr c189
         (try (have c189n1 : (!(t370.toList == t372.toList)) = false := c189b1))
         clear c189
         by_cases c190 : (t377 != t379) = true
         ·rw [if_pos c190] at H
          have c190b0 : (t377 != t379) = true := c190
          (try (have c190b1 : decide (t377 = t379) = false := by simpa using c190))
          (try (have c190b2 : (t377 == t379) = false := by simpa using c190))
          (try (have c190b3 : ¬ (t377 = t379) := by simpa using c190))
          clear c190
          have H' := Aside0.mk H
          clear H
          go_wp2
          repeat (go_quiet (fail); try go_wp2)
          refine Met.intro (hJ_ _ _ ?mg_ ?rel)
          case mg_ => kernel_rfl
          case rel => exact ⟨_, (true), (by first | rfl | ((conv => lhs; whnf); first | rfl | (simp; done) | (simp [*]; done))), H', ⟨by have := HJ13.out; have := HJ89.out; first | omega | exact Nat.le_refl _⟩, ⟨by (with_reducible repeat (first | apply Kd.R_alloc | apply Kd.R_drewN | apply Kd.R_drew)); exact HO359.out⟩, ⟨by repeat (first | (with_reducible first | exact HB.out | apply below_alloc | apply pw_below_drewN | apply below_drew1) | exact HB.out)⟩⟩
         ·rw [if_neg c190] at H
          have c190b0 : (t377 != t379) = false := by simpa using c190
          (try (have c190b1 : decide (t377 = t379) = true := by simpa using c190))
          (try (have c190b2 : (t377 == t379) = true := by simpa using c190))
          clear c190
          (try (have c190e : t377 = t379 := by first | simpa using c190b0 | (simpa using (bne_eq_false_iff_eq.mp c190b0).symm)); (subst c190e))
          have H' := Aside0.mk H
          clear H
          go_wp2
          repeat (go_quiet (fail); try go_wp2)
          refine Met.intro (hJ_ _ _ ?mg_ ?rel)
          case mg_ => kernel_rfl
          case rel => exact ⟨_, ((t376.toList != t378.toList)), (by first | rfl | ((conv => lhs; whnf); first | rfl | (simp; done) | (simp [*]; done))), H', ⟨by have := HJ13.out; have := HJ89.out; first | omega | exact Nat.le_refl _⟩, ⟨by (with_reducible repeat (first | apply Kd.R_alloc | apply Kd.R_drewN | apply Kd.R_drew)); exact HO359.out⟩, ⟨by repeat (first | (with_reducible first | exact HB.out | apply below_alloc | apply pw_below_drewN | apply below_drew1) | exact HB.out)⟩⟩
        ·rw [if_neg c189] at H
         have c189b0 : (t370.toList == t372.toList) = false := beq_eq_false_iff_ne.mpr c189
         have c189b1 : (t370.toList != t372.toList) = true := bne_iff_ne.mpr c189
         (try (have c189n1 : (!(t370.toList == t372.toList)) = true := c189b1))
         have H' := Aside0.mk H
         clear H
         go_wp2
         repeat (go_quiet (fail); try go_wp2)
         refine Met.intro (hJ_ _ _ ?mg_ ?rel)
         case mg_ => kernel_rfl
         case rel => exact ⟨_, (true), (by first | rfl | ((conv => lhs; whnf); first | rfl | (simp; done) | (simp [*]; done))), H', ⟨by have := HJ13.out; have := HJ89.out; first | omega | exact Nat.le_refl _⟩, ⟨by (with_reducible repeat (first | apply Kd.R_alloc | apply Kd.R_drewN | apply Kd.R_drew)); exact HO359.out⟩, ⟨by repeat (first | (with_reducible first | exact HB.out | apply below_alloc | apply pw_below_drewN | apply below_drew1) | exact HB.out)⟩⟩
     ·replace c186 := Bool.eq_false_iff.mpr c186
      subst c186
      rw [if_neg (show ¬ (false = true) by decide)] at H
      have H1 := H
      clear H
      have H := H1
      clear H1
      by_cases c191 : (t371 != t373) = true
      ·rw [if_pos c191] at H
       have c191b0 : (t371 != t373) = true := c191
       (try (have c191b1 : decide (t371 = t373) = false := by simpa using c191))
       (try (have c191b2 : (t371 == t373) = false := by simpa using c191))
       (try (have c191b3 : ¬ (t371 = t373) := by simpa using c191))
       clear c191
       have H' := Aside0.mk H
       clear H
       go_wp2
       repeat (go_quiet (fail); try go_wp2)
       refine Met.intro (hJ_ _ _ ?mg_ ?rel)
       case mg_ => kernel_rfl
       case rel => exact ⟨_, (true), (by first | rfl | ((conv => lhs; whnf); first | rfl | (simp; done) | (simp [*]; done))), H', ⟨by have := HJ13.out; have := HJ89.out; first | omega | exact Nat.le_refl _⟩, ⟨by (with_reducible repeat (first | apply Kd.R_alloc | apply Kd.R_drewN | apply Kd.R_drew)); exact HO359.out⟩, ⟨by repeat (first | (with_reducible first | exact HB.out | apply below_alloc | apply pw_below_drewN | apply below_drew1) | exact HB.out)⟩⟩
      ·rw [if_neg c191] at H
       have c191b0 : (t371 != t373) = false := by simpa using c191
       (try (have c191b1 : decide (t371 = t373) = true := by simpa using c191))
       (try (have c191b2 : (t371 == t373) = true := by simpa using c191))
       clear c191
       (try (have c191e : t371 = t373 := by first | simpa using c191b0 | (simpa using (bne_eq_false_iff_eq.mp c191b0).symm)); (subst c191e))
       by_cases c192 : t370.toList = t372.toList
       ·rw [if_pos c192] at H
        have c192b0 : (t370.toList == t372.toList) = true := beq_iff_eq.mpr c192
        have c192b1 : (t370.toList != t372.toList) = false := bne_eq_false_iff_eq.mpr c192
        (try (have c192n1 : (!(t370.toList == t372.toList)) = false := c192b1))
        clear c192
        by_cases c193 : (t377 != t379) = true
        ·rw [if_pos c193] at H
         have c193b0 : (t377 != t379) = true := c193
         (try (have c193b1 : decide (t377 = t379) = false := by simpa using c193))
         (try (have c193b2 : (t377 == t379) = false := by simpa using c193))
         (try (have c193b3 : ¬ (t377 = t379) := by simpa using c193))
         clear c193
         have H' := Aside0.mk H
         clear H
         go_wp2
         repeat (go_quiet (fail); try go_wp2)
         refine Met.intro (hJ_ _ _ ?mg_ ?rel)
         case mg_ => kernel_rfl
         case rel => exact ⟨_, (true), (by first | rfl | ((conv => lhs; whnf); first | rfl | (simp; done) | (simp [*]; done))), H', ⟨by have := HJ13.out; have := HJ89.out; first | omega | exact Nat.le_refl _⟩, ⟨by (with_reducible repeat (first | apply Kd.R_alloc | apply Kd.R_drewN | apply Kd.R_drew)); exact HO359.out⟩, ⟨by repeat (first | (with_reducible first | exact HB.out | apply below_alloc | apply pw_below_drewN | apply below_drew1) | exact HB.out)⟩⟩
        ·rw [if_neg c193] at H
         have c193b0 : (t377 != t379) = false := by simpa using c193
         (try (have c193b1 : decide (t377 = t379) = true := by simpa using c193))
         (try (have c193b2 : (t377 == t379) = true := by simpa using c193))
         clear c193
         (try (have c193e : t377 = t379 := by first | simpa using c193b0 | (simpa using (bne_eq_false_iff_eq.mp c193b0).symm)); (subst c193e))
         have H' := Aside0.mk H
         clear H
         go_wp2
         repeat (go_quiet (fail); try go_wp2)
         refine Met.intro (hJ_ _ _ ?mg_ ?rel)
         case mg_ => kernel_rfl
         case rel => exact ⟨_, ((t376.toList != t378.toList)), (by first | rfl | ((conv => lhs; whnf); first | rfl | (simp; done) | (simp [*]; done))), H', ⟨by have := HJ13.out; have := HJ89.out; first | omega | exact Nat.le_refl _⟩, ⟨by (with_reducible repeat (first | apply Kd.R_alloc | apply Kd.R_drewN | apply Kd.R_drew)); exact HO359.out⟩, ⟨by repeat (first | (with_reducible first | exact HB.out | apply below_alloc | apply pw_below_drewN | apply below_drew1) | exact HB.out)⟩⟩
       ·rw [if_neg c192] at H
        have c192b0 : (t370.toList == t372.toList) = false := beq_eq_false_iff_ne.mpr c192
        have c192b1 : (t370.toList != t372.toList) = true := bne_iff_ne.mpr c192
        (try (have c192n1 : (!(t370.toList == t372.toList)) = true := c192b1))
        have H' := Aside0.mk H
        clear H
        go_wp2
        repeat (go_quiet (fail); try go_wp2)
        refine Met.intro (hJ_ _ _ ?mg_ ?rel)
        case mg_ => kernel_rfl
        case rel => exact ⟨_, (true), (by first | rfl | ((conv => lhs; whnf); first | rfl | (simp; done) | (simp [*]; done))), H', ⟨by have := HJ13.out; have := HJ89.out; first | omega | exact Nat.le_refl _⟩, ⟨by (with_reducible repeat (first | apply Kd.R_alloc | apply Kd.R_drewN | apply Kd.R_drew)); exact HO359.out⟩, ⟨by repeat (first | (with_reducible first | exact HB.out | apply below_alloc | apply pw_below_drewN | apply below_drew1) | exact HB.out)⟩⟩
    ·rw [if_neg c185] at H
     have c185b0 : (t364 == t366) = false := beq_eq_false_iff_ne.mpr c185
     have c185b1 : (t364 != t366) = true := bne_iff_ne.mpr c185
     have H' := Aside0.mk H
     clear H
     go_wp2
     repeat (go_quiet (fail); try go_wp2)
     refine Met.intro (hJ_ _ _ ?mg_ ?rel)
     case mg_ => kernel_rfl
     case rel => exact ⟨_, (true), (by first | rfl | ((conv => lhs; whnf); first | rfl | (simp; done) | (simp [*]; done))), H', ⟨by have := HJ13.out; have := HJ89.out; first | omega | exact Nat.le_refl _⟩, ⟨by (with_reducible repeat (first | apply Kd.R_alloc | apply Kd.R_drewN | apply Kd.R_drew)); exact HO359.out⟩, ⟨by repeat (first | (with_reducible first | exact HB.out | apply below_alloc | apply pw_below_drewN | apply below_drew1) | exact HB.out)⟩⟩
  ·rw [if_neg c183] at H
   have c183b0 : (t360.toList == t362.toList) = false := beq_eq_false_iff_ne.mpr c183
   have c183b1 : (t360.toList != t362.toList) = true := bne_iff_ne.mpr c183
   (try (have c183n1 : (!(t360.toList == t362.toList)) = true := c183b1))
   have H' := Aside0.mk H
   clear H
   go_wp2
   repeat (go_quiet (fail); try go_wp2)
   refine Met.intro (hJ_ _ _ ?mg_ ?rel)
   case mg_ => kernel_rfl
   case rel => exact ⟨_, (true), (by first | rfl | ((conv => lhs; whnf); first | rfl | (simp; done) | (simp [*]; done))), H', ⟨by have := HJ13.out; have := HJ89.out; first | omega | exact Nat.le_refl _⟩, ⟨by (with_reducible repeat (first | apply Kd.R_alloc | apply Kd.R_drewN | apply Kd.R_drew)); exact HO359.out⟩, ⟨by repeat (first | (with_reducible first | exact HB.out | apply below_alloc | apply pw_below_drewN | apply below_drew1) | exact HB.out)⟩⟩

def laws_FnRingsMove.c16 : PSigma fun P0_ : Prop => PSigma fun P1_ : Prop => Hole P0_ → Hole P1_ → laws_FnRingsMove.c14.2.1 := by
 refine' ⟨_, _, fun HP0_ HP1_ => _⟩
 rotate_left 2
 intro k A0 c0 l0 A1 c1 l1 r w HR0 HC0 HR1 HC1 A3 t310 A5 t311 t312 A6 t315 t316 A7 t319 t320 A8 t321 t322 A9 t323 t324 A10 t325 t326 A11 t327 t328 t329 A12 t332 t333 t334 A13 _ _ w15 w16 v313 w17 v317 w18 _ w19 _ w20 v330 w21 v335 HO314 HO318 HO331 HO336 _ _ _ HO_6 HO_18 _ kj13 HJ13 _ _ kj89 HJ89 t356 t357 A162 t360 t361 A163 t362 t363 A164 t364 t365 A165 t366 t367 A166 t368 t369 A167 t370 t371 A168 t372 t373 A169 t374 t375 A170 t376 t377 A171 t378 t379 A172 HC173 w174 Ao175 co175 w176 _ w177 _ w178 w179 _ w180 w181 HO359 HB nd _ _ _ _ f_ wc u448 hcut
 clear HC173
 try clear c1
 try clear p1
 try clear q1
 try clear hx1
 try clear c2
 try clear p2
 try clear c3
 try clear p3
 try clear q3
 try clear hx3
 try clear qi3
 try clear c4
 try clear c5
 try clear c6
 try clear p6
 try clear c8
 try clear c9
 try clear c10
 try clear c11
 try clear c12
 try clear c13
 try clear c14
 try clear p14
 try clear q14
 try clear hx14
 try clear c15
 try clear p15
 try clear q15
 try clear hx15
 try clear c18
 try clear c19
 try clear c22
 try clear c22b0
 try clear c22b1
 try clear c22b2
 try clear c24
 try clear c25
 try clear c25b0
 try clear c25b1
 try clear c25b2
 try clear c28
 try clear c28b0
 try clear c28b1
 try clear c29
 try clear c29b0
 try clear c29b1
 try clear c29b2
 try clear c32
 try clear c32b0
 try clear c32b1
 try clear c33
 try clear c33b0
 try clear c33b1
 try clear c33b2
 try clear p34
 try clear q34
 try clear hx34
 try clear qi34
 try clear p35
 try clear q35
 try clear hx35
 try clear c37
 try clear c38
 try clear c38b0
 try clear c38b1
 try clear c40
 try clear c40b0
 try clear c40b1
 try clear c40b2
 try clear c48
 try clear c48b0
 try clear c48b1
 try clear c48b2
 try clear c55
 try clear c55b0
 try clear c55b1
 try clear c55b2
 try clear c62
 try clear c62b0
 try clear c62b1
 try clear c62b2
 try clear p64
 try clear c89
 try clear c91
 try clear c95
 try clear c95b0
 try clear c95b1
 try clear c97
 try clear c97b0
 try clear c97b1
 try clear c99
 try clear c99b0
 try clear c99b1
 try clear c100
 try clear c100b0
 try clear c100b1
 try clear c101
 try clear c101b0
 try clear c104
 try clear c104b0
 try clear c106
 try clear c107
 try clear c107b0
 try clear c107b1
 try clear c108
 try clear c108b0
 try clear c108b1
 try clear c109
 try clear c109b0
 try clear c109b1
 try clear c109b2
 try clear c111
 try clear c111b0
 try clear c111b1
 try clear c116
 try clear c116b0
 try clear c117
 try clear c117b0
 try clear c117b1
 try clear c117b2
 try clear c119
 try clear c119b0
 try clear c119b1
 try clear c127
 try clear c129
 try clear c129b0
 try clear c130
 try clear c130b0
 try clear c131
 try clear c131b0
 try clear c139
 try clear c140
 try clear c141
 try clear c141b0
 try clear c141b1
 try clear c142
 try clear c144
 try clear c145
 try clear c145b0
 try clear c146
 try clear c146b0
 try clear c147
 try clear c147b0
 try clear p148
 try clear q148
 try clear hx148
 try clear c149
 try clear c149b0
 try clear p150
 try clear q150
 try clear hx150
 try clear c151
 try clear c151b0
 try clear c151b1
 try clear c151b2
 try clear c153
 try clear c153b0
 try clear c154
 try clear c154b0
 try clear c155
 try clear c155b0
 try clear c157
 try clear c158
 try clear c158b0
 try clear c158b1
 try clear c182
 try clear c182b0
 try clear c182b1
 try clear c182b2
 try clear c183
 try clear c183b0
 try clear c183b1
 try clear c184
 try clear c184b0
 try clear c184b1
 try clear c184b2
 try clear c185
 try clear c185b0
 try clear c185b1
 try clear c186
 try clear c187
 try clear c188
 try clear c188b0
 try clear c188b1
 try clear c188b2
 try clear c189
 try clear c189b0
 try clear c189b1
 try clear c190
 try clear c190b0
 try clear c190b1
 try clear c190b2
 try clear c191
 try clear c191b0
 try clear c191b1
 try clear c191b2
 try clear c192
 try clear c192b0
 try clear c192b1
 try clear c193
 try clear c193b0
 try clear c193b1
 try clear c193b2
 try clear hx344_0
 try clear hx345_0
 try clear hx353_0
 try clear p1
 try clear p14
 try clear p148
 try clear p15
 try clear p150
 try clear p2
 try clear p3
 try clear p34
 try clear p344
 try clear p345
 try clear p35
 try clear p353
 try clear p6
 try clear p64
 try clear q1
 try clear q14
 try clear q148
 try clear q15
 try clear q150
 try clear q3
 try clear q34
 try clear q344
 try clear q345
 try clear q35
 try clear q353
 obtain ⟨kq, x448_172, rfl, HA, HJ172, HO_40, HB⟩ := hcut
 cases kq with
 | zero => exact absurd HA.out (by simp [laws_FnRingsMove.j7])
 | succ kj172 =>
  have H := HA.out
  clear HA
  simp only [laws_FnRingsMove.j7] at H
  by_cases c194 : x448_172 = true
  ·subst c194
   rw [if_pos rfl] at H
   have H1 := H
   clear H
   have H := H1
   clear H1
   obtain rfl := Option.some.inj H
   go_wp2
   repeat (go_quiet (fail); try go_wp2)
   go_ret
   exact ⟨by first | rfl | (simp [errW_none, errW_some] <;> rfl) | (simp [*, errW_none, errW_some] <;> rfl), by repeat (first | (with_reducible first | exact HB.out | apply below_alloc | apply pw_below_drewN | apply below_drew1) | exact HB.out)⟩
  ·replace c194 := Bool.eq_false_iff.mpr c194
   subst c194
   rw [if_neg (show ¬ (false = true) by decide)] at H
   have H1 := H
   clear H
   have H := H1
   clear H1
   have HC195 := Aside0.mk H
   clear H
   go_upto_if 449 with (fail)
   repeat (go_quiet (fail); go_upto_if 449 with (fail))
   refine wp_cutF [o_,o_,o_,o_,i_,o_,o_,o_,o_,o_,o_,o_,o_,o_,o_,o_,o_,o_,o_,o_,o_,o_,o_,o_,o_,o_,o_,o_,o_,o_,o_,o_,o_,o_,o_,o_,o_,o_,o_,o_,o_,o_,o_,o_,o_,o_,o_,o_,o_,o_,o_,o_,o_,o_,o_,o_,o_,o_,o_,o_,o_,i_,o_,i_,i_,i_,o_,o_,o_,o_,o_,o_,i_,i_,i_,i_,i_,i_,i_,i_,i_,i_,i_,i_,i_,i_,i_,i_,i_,i_,i_,i_,i_,i_,i_,i_,i_,i_,i_,i_,i_,i_,i_,i_,i_,i_,i_,i_,i_,i_,i_,i_,i_,i_,i_,i_,i_,i_,i_,i_,i_,i_,i_,i_,i_,i_,i_,i_,i_,i_,i_,i_,i_,i_,i_,i_,i_,i_,i_,i_,i_,i_,i_,i_,i_,i_,i_,i_,i_,i_,i_,i_,i_,i_,i_,i_,i_,i_,i_,i_,i_,i_,i_,i_,i_,i_,i_,i_,i_,i_,i_,i_,i_,i_,i_,i_,i_,i_,i_,i_,i_,i_,i_,i_,i_,i_,i_,i_,i_,i_,i_,i_,i_,i_,i_,i_,i_,i_,i_,i_,i_,i_,i_,i_,i_,i_,i_,i_,i_,i_,i_,i_,i_,i_,i_,i_,i_,i_,i_,i_,i_,i_,i_,i_,i_,i_,i_,i_,i_,i_,i_,i_,i_,i_,i_,i_,i_,i_,i_,i_,i_,i_,i_,i_,i_,i_,i_,i_,i_,i_,i_,i_,i_,i_,i_,i_,i_,i_,i_,i_,o_,o_,o_,i_,i_,i_,i_,i_,i_,i_,i_,i_,i_,i_,i_,i_,i_,i_,i_,i_,i_,i_,i_,i_,i_,i_,i_,i_,i_,i_,i_,i_,i_,i_,i_,i_,i_,i_,i_,i_,i_,i_,i_,i_,i_,i_,o_,o_,i_,i_,i_,i_,i_,i_,i_,i_,i_,i_,i_,i_,i_,i_,o_,o_,o_,i_,i_,i_,i_,i_,i_,i_,i_,i_,i_,i_,i_,i_,i_,i_,i_,i_,i_,i_,i_,i_,i_,i_,i_,i_,i_,i_,i_,i_,i_,i_,i_,i_,i_,i_,i_,i_,i_,i_,i_,i_,i_,i_,i_,i_,i_,i_,i_,i_,i_,i_,i_,i_,i_,i_,i_,i_,i_,i_,i_,i_,i_,i_,i_,i_,i_,i_,i_,i_,i_,i_,i_,i_,i_,i_,i_,i_,i_,i_,i_,i_,i_,i_,i_,i_,i_,i_,i_,i_,i_,i_,i_,i_,i_,i_,i_,i_,i_,i_,i_,i_,i_,i_,i_,i_,i_,i_,i_,i_,i_,i_,i_,i_,i_,i_,i_,i_,i_,i_,i_,i_,i_,i_,i_,i_,i_,i_,i_,i_,i_,i_,i_,i_,i_,i_,i_,i_,i_,i_,i_,i_,i_,i_,i_,i_,i_,i_,i_,i_,i_,i_,i_,i_,i_,i_,i_,i_,i_,i_,i_,i_,i_,i_,i_,i_,i_,i_,i_,i_,i_,i_,i_,i_,i_,i_,i_,i_,i_,i_,i_,i_,i_,i_,i_] (fun f_ wc => ∃ (kq : Nat), Aside0 (laws_FnRingsMove.j9 kq t356 t357 t364 t365 t374 t375 t376 t377 = some r) ∧ Aside0 (kq ≤ kj172) ∧ Aside0 (Kd.R (Kd.int .i64) 3 wc w.heap.size (fun _ => True) (.slice Ao175 t357.length co175) t357) ∧ Aside0 (Below w.heap.size w wc)) ?rest ?first
   case first =>
    intro J_ K_ hJ_ hK_
    repeat revert ‹_›
    intro HP0_ HP1_
    exact HP0_.out
   case rest =>
    intro f_ wc hcut
    dsimp only [maskF] at hcut ⊢
    repeat revert ‹_›
    intro HP0_ HP1_
    exact HP1_.out

def laws_FnRingsMove.c17 : PSigma fun P0_ : Prop => Hole P0_ → laws_FnRingsMove.c16.1 := by
 refine' ⟨_, fun HP0_ => _⟩
 rotate_left 1
 intro k A0 c0 l0 A1 c1 l1 r w HR0 HC0 HR1 HC1 A3 t310 A5 t311 t312 A6 t315 t316 A7 t319 t320 A8 t321 t322 A9 t323 t324 A10 t325 t326 A11 t327 t328 t329 A12 t332 t333 t334 A13 _ _ w15 w16 v313 w17 v317 w18 _ w19 _ w20 v330 w21 v335 HO314 HO318 HO331 HO336 _ _ _ HO_6 HO_18 _ kj13 HJ13 _ _ kj89 HJ89 t356 t357 A162 t360 t361 A163 t362 t363 A164 t364 t365 A165 t366 t367 A166 t368 t369 A167 t370 t371 A168 t372 t373 A169 t374 t375 A170 t376 t377 A171 t378 t379 A172 w174 Ao175 co175 w176 _ w177 _ w178 w179 _ w180 w181 HO359 _ nd f_ wc HO_40 HB kj172 HJ172 HC195 _ _ J_ K_ hJ_ hK_
 have H := HC195.out
 clear HC195
 by_cases c196 : t361 = true
 ·subst c196
  rw [if_pos rfl] at H
  have H1 := H
  clear H
  have H := H1
  clear H1
  have H' := Aside0.mk H
  clear H
  go_wp2
  repeat (go_quiet (fail); try go_wp2)
  go_loopg [61, 453] kj172 (fun kq v61 v453 w' => ∃ (x61_4 : ByteArray) (x453_4 : Int), v61 = .string x61_4 ∧ v453 = .int .i64 x453_4 ∧ Aside0 (laws_FnRingsMove.l3 kq t356 t357 t360 t364 t365 t374 t375 t376 t377 x61_4 t357 (t357.length : Int) x453_4 = some r) ∧ Aside0 (kq ≤ kj172) ∧ Aside0 (Kd.R (Kd.int .i64) 3 w' w.heap.size (fun _ => True) (.slice Ao175 t357.length co175) t357) ∧ Aside0 (Kd.R (Kd.int .i64) 3 w' w.heap.size (fun _ => True) (.slice Ao175 t357.length co175) t357) ∧ Aside0 (Below w.heap.size w w'))
  case atStart => exact ⟨(t356), (0), (by first | rfl | (simp; done) | (simp [*]; done)), (by first | rfl | (simp; done) | (simp [*]; done)), H', ⟨Nat.le_refl _⟩, ⟨by (with_reducible repeat (first | apply Kd.R_alloc | apply Kd.R_drewN | apply Kd.R_drew)); exact HO_40.out⟩, ⟨by (with_reducible repeat (first | apply Kd.R_alloc | apply Kd.R_drewN | apply Kd.R_drew)); exact HO_40.out⟩, ⟨by repeat (first | (with_reducible first | exact HB.out | apply below_alloc | apply pw_below_drewN | apply below_drew1) | exact HB.out)⟩⟩
  case round =>
   repeat revert ‹_›
   intro HP0_
   exact HP0_.out
 ·replace c196 := Bool.eq_false_iff.mpr c196
  subst c196
  rw [if_neg (show ¬ (false = true) by decide)] at H
  have H1 := H
  clear H
  have H := H1
  clear H1
  have H' := Aside0.mk H
  clear H
  go_wp2
  repeat (go_quiet (fail); try go_wp2)
  refine Met.intro (hJ_ _ _ ?mg_ ?rel)
  case mg_ => kernel_rfl
  case rel => exact ⟨_, H', ⟨by have := HJ13.out; have := HJ89.out; have := HJ172.out; first | omega | exact Nat.le_refl _⟩, ⟨by (with_reducible repeat (first | apply Kd.R_alloc | apply Kd.R_drewN | apply Kd.R_drew)); exact HO_40.out⟩, ⟨by repeat (first | (with_reducible first | exact HB.out | apply below_alloc | apply pw_below_drewN | apply below_drew1) | exact HB.out)⟩⟩

theorem laws_FnRingsMove.c18 : laws_FnRingsMove.c17.1 := by
 intro k A0 c0 l0 A1 c1 l1 r w HR0 HC0 HR1 HC1 A3 t310 A5 t311 t312 A6 t315 t316 A7 t319 t320 A8 t321 t322 A9 t323 t324 A10 t325 t326 A11 t327 t328 t329 A12 t332 t333 t334 A13 _ _ w15 w16 v313 w17 v317 w18 _ w19 _ w20 v330 w21 v335 HO314 HO318 HO331 HO336 _ _ _ HO_6 HO_18 _ kj13 HJ13 _ _ kj89 HJ89 t356 t357 A162 t360 t362 t363 A164 t364 t365 A165 t366 t367 A166 t368 t369 A167 t370 t371 A168 t372 t373 A169 t374 t375 A170 t376 t377 A171 t378 t379 A172 w174 Ao175 co175 w176 _ w177 _ w178 w179 _ w180 w181 HO359 _ nd f_ wc HO_40 HB kj172 HJ172 _ _ J_ K_ hK_ A163 hJ_ H' _ _ gk wr u4 u61 u63 u64 u65 u453 u454 u455 u456 u457 u458 u459 u460 u461 u462 u463 u464 u465 u466 hrel _ _ _ _
 clear H'
 try clear c1
 try clear p1
 try clear q1
 try clear hx1
 try clear c2
 try clear p2
 try clear c3
 try clear p3
 try clear q3
 try clear hx3
 try clear qi3
 try clear c4
 try clear c5
 try clear c6
 try clear p6
 try clear c8
 try clear c9
 try clear c10
 try clear c11
 try clear c12
 try clear c13
 try clear c14
 try clear p14
 try clear q14
 try clear hx14
 try clear c15
 try clear p15
 try clear q15
 try clear hx15
 try clear c18
 try clear c19
 try clear c22
 try clear c22b0
 try clear c22b1
 try clear c22b2
 try clear c24
 try clear c25
 try clear c25b0
 try clear c25b1
 try clear c25b2
 try clear c28
 try clear c28b0
 try clear c28b1
 try clear c29
 try clear c29b0
 try clear c29b1
 try clear c29b2
 try clear c32
 try clear c32b0
 try clear c32b1
 try clear c33
 try clear c33b0
 try clear c33b1
 try clear c33b2
 try clear p34
 try clear q34
 try clear hx34
 try clear qi34
 try clear p35
 try clear q35
 try clear hx35
 try clear c37
 try clear c38
 try clear c38b0
 try clear c38b1
 try clear c40
 try clear c40b0
 try clear c40b1
 try clear c40b2
 try clear c48
 try clear c48b0
 try clear c48b1
 try clear c48b2
 try clear c55
 try clear c55b0
 try clear c55b1
 try clear c55b2
 try clear c62
 try clear c62b0
 try clear c62b1
 try clear c62b2
 try clear p64
 try clear c89
 try clear c91
 try clear c95
 try clear c95b0
 try clear c95b1
 try clear c97
 try clear c97b0
 try clear c97b1
 try clear c99
 try clear c99b0
 try clear c99b1
 try clear c100
 try clear c100b0
 try clear c100b1
 try clear c101
 try clear c101b0
 try clear c104
 try clear c104b0
 try clear c106
 try clear c107
 try clear c107b0
 try clear c107b1
 try clear c108
 try clear c108b0
 try clear c108b1
 try clear c109
 try clear c109b0
 try clear c109b1
 try clear c109b2
 try clear c111
 try clear c111b0
 try clear c111b1
 try clear c116
 try clear c116b0
 try clear c117
 try clear c117b0
 try clear c117b1
 try clear c117b2
 try clear c119
 try clear c119b0
 try clear c119b1
 try clear c127
 try clear c129
 try clear c129b0
 try clear c130
 try clear c130b0
 try clear c131
 try clear c131b0
 try clear c139
 try clear c140
 try clear c141
 try clear c141b0
 try clear c141b1
 try clear c142
 try clear c144
 try clear c145
 try clear c145b0
 try clear c146
 try clear c146b0
 try clear c147
 try clear c147b0
 try clear p148
 try clear q148
 try clear hx148
 try clear c149
 try clear c149b0
 try clear p150
 try clear q150
 try clear hx150
 try clear c151
 try clear c151b0
 try clear c151b1
 try clear c151b2
 try clear c153
 try clear c153b0
 try clear c154
 try clear c154b0
 try clear c155
 try clear c155b0
 try clear c157
 try clear c158
 try clear c158b0
 try clear c158b1
 try clear c182
 try clear c182b0
 try clear c182b1
 try clear c182b2
 try clear c183
 try clear c183b0
 try clear c183b1
 try clear c184
 try clear c184b0
 try clear c184b1
 try clear c184b2
 try clear c185
 try clear c185b0
 try clear c185b1
 try clear c186
 try clear c187
 try clear c188
 try clear c188b0
 try clear c188b1
 try clear c188b2
 try clear c189
 try clear c189b0
 try clear c189b1
 try clear c190
 try clear c190b0
 try clear c190b1
 try clear c190b2
 try clear c191
 try clear c191b0
 try clear c191b1
 try clear c191b2
 try clear c192
 try clear c192b0
 try clear c192b1
 try clear c193
 try clear c193b0
 try clear c193b1
 try clear c193b2
 try clear c194
 try clear c196
 try clear hx344_0
 try clear hx345_0
 try clear hx353_0
 try clear p1
 try clear p14
 try clear p148
 try clear p15
 try clear p150
 try clear p2
 try clear p3
 try clear p34
 try clear p344
 try clear p345
 try clear p35
 try clear p353
 try clear p6
 try clear p64
 try clear q1
 try clear q14
 try clear q148
 try clear q15
 try clear q150
 try clear q3
 try clear q34
 try clear q344
 try clear q345
 try clear q35
 try clear q353
 obtain ⟨x61_4, x453_4, rfl, rfl, HA, HK4, HO_40, HO_451, HB⟩ := hrel
 cases gk with
 | zero => exact absurd HA.out (by simp [laws_FnRingsMove.l3])
 | succ k4 =>
  have H := HA.out
  clear HA
  simp only [laws_FnRingsMove.l3] at H
  by_cases c197 : x453_4 < (t357.length : Int)
  ·rw [if_pos c197] at H
   have c197b0 : decide (x453_4 < (t357.length : Int)) = true := decide_eq_true c197
   clear c197
   (first | rw [c197b0] | (simp only [i64_w, i32_w]; rw [c197b0]) | skip)
   by_cases c198 : 0 ≤ x453_4
   ·rw [if_pos c198] at H
    have c198b0 : decide (0 ≤ x453_4) = true := decide_eq_true c198
    clear c198
    by_cases c199 : x453_4 < (t357.length : Int)
    ·rw [if_pos c199] at H
     have c199b0 : decide (x453_4 < (t357.length : Int)) = true := decide_eq_true c199
     clear c199
     replace H := Option.bind_eq_some_iff.mp H
     obtain ⟨⟨t381, t382⟩, A2000, H⟩ := H
     try dsimp +instances only at H
     replace H := H
     have A200 := Aside0.mk A2000
     clear A2000
     by_cases c201 : t382 = true
     ·subst c201
      rw [if_pos rfl] at H
      have H1 := H
      clear H
      have H := H1
      clear H1
      have H' := Aside0.mk H
      clear H
      have p380 : 0 ≤ (x453_4 : Int) := of_decide_eq_true (by first | (with_reducible assumption) | assumption)
      have q380 : x453_4 < (t357.length : Int) := of_decide_eq_true (by first | (with_reducible assumption) | assumption)
      obtain ⟨ad380, e380, hx380_0⟩ := Kd.at_int (Kd.R_reads' HO_451.out).2.2 x453_4 p380 q380
      cases e380
      replace p380 := eq_true p380
      replace q380 := eq_true q380
      go_wp2_with (first | (go_at_call 19; (with_reducible refine (impl_MoveRing.calls x61_4 (rd t357 x453_4) t381 true _ A200.out).mono ?_); rintro e w202 ⟨rfl, hb⟩; have n0_ := Aside0.mk (Kd.R_below (by (with_reducible repeat (first | apply Kd.R_alloc | apply Kd.R_drewN | apply Kd.R_drew)); exact HO_40.out) hb); have n1_ := Aside0.mk (Kd.R_below (by (with_reducible repeat (first | apply Kd.R_alloc | apply Kd.R_drewN | apply Kd.R_drew)); exact HO_451.out) hb); have n2_ := Aside0.mk (below_step (by repeat (first | (with_reducible first | exact HB.out | apply below_alloc | apply pw_below_drewN | apply below_drew1) | exact HB.out)) hb); clear HO_40; clear HO_451; clear HB; have HO_40 := n0_; have HO_451 := n1_; have HB := n2_; clear n0_ n1_ n2_; (try clear hb); (try clear hb2); (try clear hk); (try clear hi)))
      repeat (go_quiet (first | (go_at_call 19; (with_reducible refine (impl_MoveRing.calls x61_4 (rd t357 x453_4) t381 true _ A200.out).mono ?_); rintro e w202 ⟨rfl, hb⟩; have n0_ := Aside0.mk (Kd.R_below (by (with_reducible repeat (first | apply Kd.R_alloc | apply Kd.R_drewN | apply Kd.R_drew)); exact HO_40.out) hb); have n1_ := Aside0.mk (Kd.R_below (by (with_reducible repeat (first | apply Kd.R_alloc | apply Kd.R_drewN | apply Kd.R_drew)); exact HO_451.out) hb); have n2_ := Aside0.mk (below_step (by repeat (first | (with_reducible first | exact HB.out | apply below_alloc | apply pw_below_drewN | apply below_drew1) | exact HB.out)) hb); clear HO_40; clear HO_451; clear HB; have HO_40 := n0_; have HO_451 := n1_; have HB := n2_; clear n0_ n1_ n2_; (try clear hb); (try clear hb2); (try clear hk); (try clear hi))); try go_wp2_with (first | (go_at_call 19; (with_reducible refine (impl_MoveRing.calls x61_4 (rd t357 x453_4) t381 true _ A200.out).mono ?_); rintro e w202 ⟨rfl, hb⟩; have n0_ := Aside0.mk (Kd.R_below (by (with_reducible repeat (first | apply Kd.R_alloc | apply Kd.R_drewN | apply Kd.R_drew)); exact HO_40.out) hb); have n1_ := Aside0.mk (Kd.R_below (by (with_reducible repeat (first | apply Kd.R_alloc | apply Kd.R_drewN | apply Kd.R_drew)); exact HO_451.out) hb); have n2_ := Aside0.mk (below_step (by repeat (first | (with_reducible first | exact HB.out | apply below_alloc | apply pw_below_drewN | apply below_drew1) | exact HB.out)) hb); clear HO_40; clear HO_451; clear HB; have HO_40 := n0_; have HO_451 := n1_; have HB := n2_; clear n0_ n1_ n2_; (try clear hb); (try clear hb2); (try clear hk); (try clear hi))))
      go_roundg k4
      case measure => have := HJ13.out; have := HJ89.out; have := HJ172.out; have := HK4.out; omega
      case rel => exact ⟨(t381), (wrap64 (x453_4 + 1)), (by first | rfl | ((conv => lhs; whnf); first | rfl | (simp; done) | (simp [*]; done))), (by first | rfl | ((conv => lhs; whnf); first | rfl | (simp; done) | (simp [*]; done))), H', ⟨by have := HJ13.out; have := HJ89.out; have := HJ172.out; have := HK4.out; omega⟩, ⟨by (with_reducible repeat (first | apply Kd.R_alloc | apply Kd.R_drewN | apply Kd.R_drew)); exact HO_40.out⟩, ⟨by (with_reducible repeat (first | apply Kd.R_alloc | apply Kd.R_drewN | apply Kd.R_drew)); exact HO_451.out⟩, ⟨by repeat (first | (with_reducible first | exact HB.out | apply below_alloc | apply pw_below_drewN | apply below_drew1) | exact HB.out)⟩⟩
     ·replace c201 := Bool.eq_false_iff.mpr c201
      subst c201
      rw [if_neg (show ¬ (false = true) by decide)] at H
      have H1 := H
      clear H
      have H := H1
      clear H1
      obtain rfl := Option.some.inj H
      have p380 : 0 ≤ (x453_4 : Int) := of_decide_eq_true (by first | (with_reducible assumption) | assumption)
      have q380 : x453_4 < (t357.length : Int) := of_decide_eq_true (by first | (with_reducible assumption) | assumption)
      obtain ⟨ad380, e380, hx380_0⟩ := Kd.at_int (Kd.R_reads' HO_451.out).2.2 x453_4 p380 q380
      cases e380
      replace p380 := eq_true p380
      replace q380 := eq_true q380
      go_wp2_with (first | (go_at_call 19; (with_reducible refine (impl_MoveRing.calls x61_4 (rd t357 x453_4) t381 false _ A200.out).mono ?_); rintro e w203 ⟨rfl, hb⟩; have n0_ := Aside0.mk (Kd.R_below (by (with_reducible repeat (first | apply Kd.R_alloc | apply Kd.R_drewN | apply Kd.R_drew)); exact HO_40.out) hb); have n1_ := Aside0.mk (Kd.R_below (by (with_reducible repeat (first | apply Kd.R_alloc | apply Kd.R_drewN | apply Kd.R_drew)); exact HO_451.out) hb); have n2_ := Aside0.mk (below_step (by repeat (first | (with_reducible first | exact HB.out | apply below_alloc | apply pw_below_drewN | apply below_drew1) | exact HB.out)) hb); clear HO_40; clear HO_451; clear HB; have HO_40 := n0_; have HO_451 := n1_; have HB := n2_; clear n0_ n1_ n2_; (try clear hb); (try clear hb2); (try clear hk); (try clear hi)))
      repeat (go_quiet (first | (go_at_call 19; (with_reducible refine (impl_MoveRing.calls x61_4 (rd t357 x453_4) t381 false _ A200.out).mono ?_); rintro e w203 ⟨rfl, hb⟩; have n0_ := Aside0.mk (Kd.R_below (by (with_reducible repeat (first | apply Kd.R_alloc | apply Kd.R_drewN | apply Kd.R_drew)); exact HO_40.out) hb); have n1_ := Aside0.mk (Kd.R_below (by (with_reducible repeat (first | apply Kd.R_alloc | apply Kd.R_drewN | apply Kd.R_drew)); exact HO_451.out) hb); have n2_ := Aside0.mk (below_step (by repeat (first | (with_reducible first | exact HB.out | apply below_alloc | apply pw_below_drewN | apply below_drew1) | exact HB.out)) hb); clear HO_40; clear HO_451; clear HB; have HO_40 := n0_; have HO_451 := n1_; have HB := n2_; clear n0_ n1_ n2_; (try clear hb); (try clear hb2); (try clear hk); (try clear hi))); try go_wp2_with (first | (go_at_call 19; (with_reducible refine (impl_MoveRing.calls x61_4 (rd t357 x453_4) t381 false _ A200.out).mono ?_); rintro e w203 ⟨rfl, hb⟩; have n0_ := Aside0.mk (Kd.R_below (by (with_reducible repeat (first | apply Kd.R_alloc | apply Kd.R_drewN | apply Kd.R_drew)); exact HO_40.out) hb); have n1_ := Aside0.mk (Kd.R_below (by (with_reducible repeat (first | apply Kd.R_alloc | apply Kd.R_drewN | apply Kd.R_drew)); exact HO_451.out) hb); have n2_ := Aside0.mk (below_step (by repeat (first | (with_reducible first | exact HB.out | apply below_alloc | apply pw_below_drewN | apply below_drew1) | exact HB.out)) hb); clear HO_40; clear HO_451; clear HB; have HO_40 := n0_; have HO_451 := n1_; have HB := n2_; clear n0_ n1_ n2_; (try clear hb); (try clear hb2); (try clear hk); (try clear hi))))
      go_ret
      exact ⟨by first | rfl | (simp [errW_none, errW_some] <;> rfl) | (simp [*, errW_none, errW_some] <;> rfl), by repeat (first | (with_reducible first | exact HB.out | apply below_alloc | apply pw_below_drewN | apply below_drew1) | exact HB.out)⟩
    ·rw [if_neg c199] at H
     exact absurd H (by simp)
   ·rw [if_neg c198] at H
    exact absurd H (by simp)
  ·rw [if_neg c197] at H
   have c197b0 : decide (x453_4 < (t357.length : Int)) = false := decide_eq_false c197
   clear c197
   (first | rw [c197b0] | (simp only [i64_w, i32_w]; rw [c197b0]) | skip)
   by_cases c204 : x61_4.toList = t360.toList
   ·rw [if_pos c204] at H
    have c204b0 : (x61_4.toList == t360.toList) = true := beq_iff_eq.mpr c204
    have c204b1 : (x61_4.toList != t360.toList) = false := bne_eq_false_iff_eq.mpr c204
    (try (have c204n1 : (!(x61_4.toList == t360.toList)) = false := c204b1))
    clear c204
    have H' := Aside0.mk H
    clear H
    go_wp2
    repeat (go_quiet (fail); try go_wp2)
    refine Met.intro (hJ_ _ _ ?mg_ ?rel)
    case mg_ => kernel_rfl
    case rel => exact ⟨_, H', ⟨by have := HJ13.out; have := HJ89.out; have := HJ172.out; have := HK4.out; first | omega | exact Nat.le_refl _⟩, ⟨by (with_reducible repeat (first | apply Kd.R_alloc | apply Kd.R_drewN | apply Kd.R_drew)); exact HO_40.out⟩, ⟨by repeat (first | (with_reducible first | exact HB.out | apply below_alloc | apply pw_below_drewN | apply below_drew1) | exact HB.out)⟩⟩
   ·rw [if_neg c204] at H
    have c204b0 : (x61_4.toList == t360.toList) = false := beq_eq_false_iff_ne.mpr c204
    have c204b1 : (x61_4.toList != t360.toList) = true := bne_iff_ne.mpr c204
    (try (have c204n1 : (!(x61_4.toList == t360.toList)) = true := c204b1))
    obtain rfl := Option.some.inj H
    go_wp2
    repeat (go_quiet (fail); try go_wp2)
    go_ret
    exact ⟨by first | rfl | (simp [errW_none, errW_some] <;> rfl) | (simp [*, errW_none, errW_some] <;> rfl), by repeat (first | (with_reducible first | exact HB.out | apply below_alloc | apply pw_below_drewN | apply below_drew1) | exact HB.out)⟩

def laws_FnRingsMove.c19 : PSigma fun P0_ : Prop => Hole P0_ → laws_FnRingsMove.c16.2.1 := by
 refine' ⟨_, fun HP0_ => _⟩
 rotate_left 1
 intro k A0 c0 l0 A1 c1 l1 r w HR0 HC0 HR1 HC1 A3 t310 A5 t311 t312 A6 t315 t316 A7 t319 t320 A8 t321 t322 A9 t323 t324 A10 t325 t326 A11 t327 t328 t329 A12 t332 t333 t334 A13 _ _ w15 w16 v313 w17 v317 w18 _ w19 _ w20 v330 w21 v335 HO314 HO318 HO331 HO336 _ _ _ HO_6 HO_18 _ kj13 HJ13 _ _ kj89 HJ89 t356 t357 A162 t360 t361 A163 t362 t363 A164 t364 t365 A165 t366 t367 A166 t368 t369 A167 t370 t371 A168 t372 t373 A169 t374 t375 A170 t376 t377 A171 t378 t379 A172 w174 Ao175 co175 w176 _ w177 _ w178 w179 _ w180 w181 HO359 _ nd _ _ HO_40 HB kj172 HJ172 HC195 _ _ f_ wc hcut
 clear HC195
 try clear c1
 try clear p1
 try clear q1
 try clear hx1
 try clear c2
 try clear p2
 try clear c3
 try clear p3
 try clear q3
 try clear hx3
 try clear qi3
 try clear c4
 try clear c5
 try clear c6
 try clear p6
 try clear c8
 try clear c9
 try clear c10
 try clear c11
 try clear c12
 try clear c13
 try clear c14
 try clear p14
 try clear q14
 try clear hx14
 try clear c15
 try clear p15
 try clear q15
 try clear hx15
 try clear c18
 try clear c19
 try clear c20
 try clear c22
 try clear c22b0
 try clear c22b1
 try clear c22b2
 try clear c24
 try clear c25
 try clear c25b0
 try clear c25b1
 try clear c25b2
 try clear c28
 try clear c28b0
 try clear c28b1
 try clear c29
 try clear c29b0
 try clear c29b1
 try clear c29b2
 try clear c32
 try clear c32b0
 try clear c32b1
 try clear c33
 try clear c33b0
 try clear c33b1
 try clear c33b2
 try clear p34
 try clear q34
 try clear hx34
 try clear qi34
 try clear p35
 try clear q35
 try clear hx35
 try clear c37
 try clear c38
 try clear c38b0
 try clear c38b1
 try clear p38
 try clear q38
 try clear hx38
 try clear c40
 try clear c40b0
 try clear c40b1
 try clear c40b2
 try clear c48
 try clear c48b0
 try clear c48b1
 try clear c48b2
 try clear c55
 try clear c55b0
 try clear c55b1
 try clear c55b2
 try clear c62
 try clear c62b0
 try clear c62b1
 try clear c62b2
 try clear p64
 try clear c89
 try clear c91
 try clear c95
 try clear c95b0
 try clear c95b1
 try clear c97
 try clear c97b0
 try clear c97b1
 try clear c99
 try clear c99b0
 try clear c99b1
 try clear c100
 try clear c100b0
 try clear c100b1
 try clear c101
 try clear c101b0
 try clear c104
 try clear c104b0
 try clear c106
 try clear c107
 try clear c107b0
 try clear c107b1
 try clear c108
 try clear c108b0
 try clear c108b1
 try clear c109
 try clear c109b0
 try clear c109b1
 try clear c109b2
 try clear c111
 try clear c111b0
 try clear c111b1
 try clear c116
 try clear c116b0
 try clear c117
 try clear c117b0
 try clear c117b1
 try clear c117b2
 try clear c119
 try clear c119b0
 try clear c119b1
 try clear c127
 try clear c129
 try clear c129b0
 try clear c130
 try clear c130b0
 try clear c131
 try clear c131b0
 try clear c139
 try clear c140
 try clear c141
 try clear c141b0
 try clear c141b1
 try clear c142
 try clear c144
 try clear c145
 try clear c145b0
 try clear c146
 try clear c146b0
 try clear c147
 try clear c147b0
 try clear p148
 try clear q148
 try clear hx148
 try clear c149
 try clear c149b0
 try clear p150
 try clear q150
 try clear hx150
 try clear c151
 try clear c151b0
 try clear c151b1
 try clear c151b2
 try clear c153
 try clear c153b0
 try clear c154
 try clear c154b0
 try clear c155
 try clear c155b0
 try clear c157
 try clear c158
 try clear c158b0
 try clear c158b1
 try clear c182
 try clear c182b0
 try clear c182b1
 try clear c182b2
 try clear c183
 try clear c183b0
 try clear c183b1
 try clear c184
 try clear c184b0
 try clear c184b1
 try clear c184b2
 try clear c185
 try clear c185b0
 try clear c185b1
 try clear c186
 try clear c187
 try clear c188
 try clear c188b0
 try clear c188b1
 try clear c188b2
 try clear c189
 try clear c189b0
 try clear c189b1
 try clear c190
 try clear c190b0
 try clear c190b1
 try clear c190b2
 try clear c191
 try clear c191b0
 try clear c191b1
 try clear c191b2
 try clear c192
 try clear c192b0
 try clear c192b1
 try clear c193
 try clear c193b0
 try clear c193b1
 try clear c193b2
 try clear c194
 try clear c196
 try clear c197
 try clear c197b0
 try clear c198
 try clear c198b0
 try clear c199
 try clear c199b0
 try clear c201
 try clear c204
 try clear c204b0
 try clear c204b1
 try clear hx344_0
 try clear hx345_0
 try clear hx353_0
 try clear hx380_0
 try clear p1
 try clear p14
 try clear p148
 try clear p15
 try clear p150
 try clear p2
 try clear p3
 try clear p34
 try clear p344
 try clear p345
 try clear p35
 try clear p353
 try clear p380
 try clear p6
 try clear p64
 try clear q1
 try clear q14
 try clear q148
 try clear q15
 try clear q150
 try clear q3
 try clear q34
 try clear q344
 try clear q345
 try clear q35
 try clear q353
 try clear q380
 obtain ⟨kq, HA, HJ194, HO_40, HB⟩ := hcut
 cases kq with
 | zero => exact absurd HA.out (by simp [laws_FnRingsMove.j9])
 | succ kj194 =>
  have H := HA.out
  clear HA
  simp only [laws_FnRingsMove.j9] at H
  by_cases c205 : t365 = true
  ·subst c205
   rw [if_pos rfl] at H
   have H1 := H
   clear H
   have H := H1
   clear H1
   by_cases c206 : 0 ≤ t364
   ·rw [if_pos c206] at H
    have c206b0 := eq_true c206
    have c206b1 : decide (0 ≤ t364) = true := decide_eq_true c206
    clear c206
    by_cases c207 : t364 ≤ (t357.length : Int)
    ·rw [if_pos c207] at H
     have c207b0 := eq_true c207
     have c207b1 : decide (t364 ≤ (t357.length : Int)) = true := decide_eq_true c207
     clear c207
     obtain ⟨y383, hy383⟩ : ∃ y_ : List Int, y_ = (t357.take (t364 : Int).toNat) := ⟨_, rfl⟩
     replace H : ((impl_PlayMoves.f kj194 t356 y383).bind fun bt387 => (if bt387.2 = true then (if t364 < (t357.length : Int) then ((impl_MoveRing.f bt387.1 (rd t357 t364)).bind fun bt390 => (if bt390.2 = true then (some false) else (if t377 = true then ((impl_NumberOfState.f kj194 t376).bind fun bt392 => (if bt392.2 = true then (if bt392.1 = t375 then (some ((t376.size : Int) == t374)) else (some false)) else (some false))) else (some true)))) else (none)) else (some false))) = some r := by first | (rw [hy383]; with_reducible exact H) | (have H2_ := (Option.bind_some _ _).symm.trans H; rw [hy383]; with_reducible exact H2_) | (have H2_ := (Option.bind_some _ _).symm.trans H; with_reducible exact H2_) | with_reducible exact H | (rw [hy383]; exact H) | exact H
     have Ny383 := Aside0.mk hy383
     clear hy383
     replace H := Option.bind_eq_some_iff.mp H
     obtain ⟨⟨t387, t388⟩, A2080, H⟩ := H
     try dsimp +instances only at H
     replace H := H
     have A208 := Aside0.mk A2080
     clear A2080
     by_cases c209 : t388 = true
     ·subst c209
      rw [if_pos rfl] at H
      have H1 := H
      clear H
      have H := H1
      clear H1
      by_cases c210 : t364 < (t357.length : Int)
      ·rw [if_pos c210] at H
       have c210b0 : decide (t364 < (t357.length : Int)) = true := decide_eq_true c210
       clear c210
       replace H := Option.bind_eq_some_iff.mp H
       obtain ⟨⟨t390, t391⟩, A2110, H⟩ := H
       try dsimp +instances only at H
       replace H := H
       have A211 := Aside0.mk A2110
       clear A2110
       by_cases c212 : t391 = true
       ·subst c212
        rw [if_pos rfl] at H
        have H1 := H
        clear H
        have H := H1
        clear H1
        obtain rfl := Option.some.inj H
        have q213 : (t364 : Int) ≤ ((t357.length : Int) : Int) := of_decide_eq_true (by first | (with_reducible assumption) | assumption)
        obtain ⟨i0213, hi0213, _, hsz213, _⟩ := info_parts info3
        have hroom213 : t357.length ≤ co175 := (Kd.R_reads' HO_40.out).2.1
        have hC213 : Kd.C (Kd.int .i64) _ Ao175 t357.length t357 := (Kd.R_reads' HO_40.out).2.2
        have hcut213 := cut_to (P := Tryd.prog) 25 3 .i64 Tryd.underlying25 hi0213 Ao175 t357.length co175 t364 (of_decide_eq_true (by first | (with_reducible assumption) | assumption)) q213 hroom213
        have hr213 := Kd.C_take (m := (t364 : Int).toNat) hC213 (by omega)
        have hy213 : y383.length = (t364 : Int).toNat := (by rw [Ny383.out, List.length_take]; omega)
        rw [← Ny383.out] at hr213
        rw [← hy213] at hcut213
        have HR386 := Aside0.mk hr213
        have HC386 := Aside0.mk (show y383.length ≤ co175 from by omega)
        clear hr213 hC213 hroom213 hi0213 hsz213
        have KY213 := Aside0.mk hy213
        clear hy213
        have KL213 := Aside0.mk (show (t364 : Int).toNat ≤ t357.length from by omega)
        replace q213 := eq_true q213
        go_wp2_with (first | (go_at_call 23; (with_reducible refine (impl_PlayMoves.calls kj194 t356 _ _ y383 t387 true _ ?side1 ?side2 A208.out).mono ?_); (case side1 => repeat (first | exact (by repeat (first | (with_reducible exact HR386.out) | (with_reducible refine Kd.C_alloc ?_ _) | (with_reducible refine Kd.C_drewN ?_ _) | (with_reducible refine Kd.C_drew ?_) | exact HR386.out)) | (with_reducible refine Kd.C_alloc ?_ _) | (with_reducible refine Kd.C_drewN ?_ _) | (with_reducible refine Kd.C_drew ?_))); (case side2 => exact HC386.out); rintro e w214 ⟨rfl, hb⟩; have n0_ := Aside0.mk (Kd.R_below (by (with_reducible repeat (first | apply Kd.R_alloc | apply Kd.R_drewN | apply Kd.R_drew)); exact HO_40.out) hb); have n1_ := Aside0.mk (Kd.C_below (by repeat (first | (with_reducible exact HR386.out) | (with_reducible refine Kd.C_alloc ?_ _) | (with_reducible refine Kd.C_drewN ?_ _) | (with_reducible refine Kd.C_drew ?_) | exact HR386.out)) hb); have n2_ := Aside0.mk (below_step (by repeat (first | (with_reducible first | exact HB.out | apply below_alloc | apply pw_below_drewN | apply below_drew1) | exact HB.out)) hb); clear HO_40; clear HR386; clear HB; have HO_40 := n0_; have HR386 := n1_; have HB := n2_; clear n0_ n1_ n2_; (try clear hb); (try clear hb2); (try clear hk); (try clear hi); have p389 : 0 ≤ (t364 : Int) := of_decide_eq_true (by first | (with_reducible assumption) | assumption); have q389 : t364 < (t357.length : Int) := of_decide_eq_true (by first | (with_reducible assumption) | assumption); obtain ⟨ad389, e389, hx389_0⟩ := Kd.at_int (Kd.R_reads' HO_40.out).2.2 t364 p389 q389; cases e389; replace p389 := eq_true p389; replace q389 := eq_true q389) | (go_at_call 19; (with_reducible refine (impl_MoveRing.calls t387 (rd t357 t364) t390 true _ A211.out).mono ?_); rintro e w215 ⟨rfl, hb⟩; have n0_ := Aside0.mk (Kd.R_below (by (with_reducible repeat (first | apply Kd.R_alloc | apply Kd.R_drewN | apply Kd.R_drew)); exact HO_40.out) hb); have n1_ := Aside0.mk (Kd.C_below (by repeat (first | (with_reducible exact HR386.out) | (with_reducible refine Kd.C_alloc ?_ _) | (with_reducible refine Kd.C_drewN ?_ _) | (with_reducible refine Kd.C_drew ?_) | exact HR386.out)) hb); have n2_ := Aside0.mk (below_step (by repeat (first | (with_reducible first | exact HB.out | apply below_alloc | apply pw_below_drewN | apply below_drew1) | exact HB.out)) hb); clear HO_40; clear HR386; clear HB; have HO_40 := n0_; have HR386 := n1_; have HB := n2_; clear n0_ n1_ n2_; (try clear hb); (try clear hb2); (try clear hk); (try clear hi)))
        repeat (go_quiet (first | (go_at_call 23; (with_reducible refine (impl_PlayMoves.calls kj194 t356 _ _ y383 t387 true _ ?side1 ?side2 A208.out).mono ?_); (case side1 => repeat (first | exact (by repeat (first | (with_reducible exact HR386.out) | (with_reducible refine Kd.C_alloc ?_ _) | (with_reducible refine Kd.C_drewN ?_ _) | (with_reducible refine Kd.C_drew ?_) | exact HR386.out)) | (with_reducible refine Kd.C_alloc ?_ _) | (with_reducible refine Kd.C_drewN ?_ _) | (with_reducible refine Kd.C_drew ?_))); (case side2 => exact HC386.out); rintro e w214 ⟨rfl, hb⟩; have n0_ := Aside0.mk (Kd.R_below (by (with_reducible repeat (first | apply Kd.R_alloc | apply Kd.R_drewN | apply Kd.R_drew)); exact HO_40.out) hb); have n1_ := Aside0.mk (Kd.C_below (by repeat (first | (with_reducible exact HR386.out) | (with_reducible refine Kd.C_alloc ?_ _) | (with_reducible refine Kd.C_drewN ?_ _) | (with_reducible refine Kd.C_drew ?_) | exact HR386.out)) hb); have n2_ := Aside0.mk (below_step (by repeat (first | (with_reducible first | exact HB.out | apply below_alloc | apply pw_below_drewN | apply below_drew1) | exact HB.out)) hb); clear HO_40; clear HR386; clear HB; have HO_40 := n0_; have HR386 := n1_; have HB := n2_; clear n0_ n1_ n2_; (try clear hb); (try clear hb2); (try clear hk); (try clear hi); have p389 : 0 ≤ (t364 : Int) := of_decide_eq_true (by first | (with_reducible assumption) | assumption); have q389 : t364 < (t357.length : Int) := of_decide_eq_true (by first | (with_reducible assumption) | assumption); obtain ⟨ad389, e389, hx389_0⟩ := Kd.at_int (Kd.R_reads' HO_40.out).2.2 t364 p389 q389; cases e389; replace p389 := eq_true p389; replace q389 := eq_true q389) | (go_at_call 19; (with_reducible refine (impl_MoveRing.calls t387 (rd t357 t364) t390 true _ A211.out).mono ?_); rintro e w215 ⟨rfl, hb⟩; have n0_ := Aside0.mk (Kd.R_below (by (with_reducible repeat (first | apply Kd.R_alloc | apply Kd.R_drewN | apply Kd.R_drew)); exact HO_40.out) hb); have n1_ := Aside0.mk (Kd.C_below (by repeat (first | (with_reducible exact HR386.out) | (with_reducible refine Kd.C_alloc ?_ _) | (with_reducible refine Kd.C_drewN ?_ _) | (with_reducible refine Kd.C_drew ?_) | exact HR386.out)) hb); have n2_ := Aside0.mk (below_step (by repeat (first | (with_reducible first | exact HB.out | apply below_alloc | apply pw_below_drewN | apply below_drew1) | exact HB.out)) hb); clear HO_40; clear HR386; clear HB; have HO_40 := n0_; have HR386 := n1_; have HB := n2_; clear n0_ n1_ n2_; (try clear hb); (try clear hb2); (try clear hk); (try clear hi))); try go_wp2_with (first | (go_at_call 23; (with_reducible refine (impl_PlayMoves.calls kj194 t356 _ _ y383 t387 true _ ?side1 ?side2 A208.out).mono ?_); (case side1 => repeat (first | exact (by repeat (first | (with_reducible exact HR386.out) | (with_reducible refine Kd.C_alloc ?_ _) | (with_reducible refine Kd.C_drewN ?_ _) | (with_reducible refine Kd.C_drew ?_) | exact HR386.out)) | (with_reducible refine Kd.C_alloc ?_ _) | (with_reducible refine Kd.C_drewN ?_ _) | (with_reducible refine Kd.C_drew ?_))); (case side2 => exact HC386.out); rintro e w214 ⟨rfl, hb⟩; have n0_ := Aside0.mk (Kd.R_below (by (with_reducible repeat (first | apply Kd.R_alloc | apply Kd.R_drewN | apply Kd.R_drew)); exact HO_40.out) hb); have n1_ := Aside0.mk (Kd.C_below (by repeat (first | (with_reducible exact HR386.out) | (with_reducible refine Kd.C_alloc ?_ _) | (with_reducible refine Kd.C_drewN ?_ _) | (with_reducible refine Kd.C_drew ?_) | exact HR386.out)) hb); have n2_ := Aside0.mk (below_step (by repeat (first | (with_reducible first | exact HB.out | apply below_alloc | apply pw_below_drewN | apply below_drew1) | exact HB.out)) hb); clear HO_40; clear HR386; clear HB; have HO_40 := n0_; have HR386 := n1_; have HB := n2_; clear n0_ n1_ n2_; (try clear hb); (try clear hb2); (try clear hk); (try clear hi); have p389 : 0 ≤ (t364 : Int) := of_decide_eq_true (by first | (with_reducible assumption) | assumption); have q389 : t364 < (t357.length : Int) := of_decide_eq_true (by first | (with_reducible assumption) | assumption); obtain ⟨ad389, e389, hx389_0⟩ := Kd.at_int (Kd.R_reads' HO_40.out).2.2 t364 p389 q389; cases e389; replace p389 := eq_true p389; replace q389 := eq_true q389) | (go_at_call 19; (with_reducible refine (impl_MoveRing.calls t387 (rd t357 t364) t390 true _ A211.out).mono ?_); rintro e w215 ⟨rfl, hb⟩; have n0_ := Aside0.mk (Kd.R_below (by (with_reducible repeat (first | apply Kd.R_alloc | apply Kd.R_drewN | apply Kd.R_drew)); exact HO_40.out) hb); have n1_ := Aside0.mk (Kd.C_below (by repeat (first | (with_reducible exact HR386.out) | (with_reducible refine Kd.C_alloc ?_ _) | (with_reducible refine Kd.C_drewN ?_ _) | (with_reducible refine Kd.C_drew ?_) | exact HR386.out)) hb); have n2_ := Aside0.mk (below_step (by repeat (first | (with_reducible first | exact HB.out | apply below_alloc | apply pw_below_drewN | apply below_drew1) | exact HB.out)) hb); clear HO_40; clear HR386; clear HB; have HO_40 := n0_; have HR386 := n1_; have HB := n2_; clear n0_ n1_ n2_; (try clear hb); (try clear hb2); (try clear hk); (try clear hi))))
        go_ret
        exact ⟨by first | rfl | (simp [errW_none, errW_some] <;> rfl) | (simp [*, errW_none, errW_some] <;> rfl), by repeat (first | (with_reducible first | exact HB.out | apply below_alloc | apply pw_below_drewN | apply below_drew1) | exact HB.out)⟩
       ·
        repeat revert ‹_›
        intro HP0_
        exact HP0_.out
      ·rw [if_neg c210] at H
       exact absurd H (by simp)
     ·replace c209 := Bool.eq_false_iff.mpr c209
      subst c209
      rw [if_neg (show ¬ (false = true) by decide)] at H
      have H1 := H
      clear H
      have H := H1
      clear H1
      obtain rfl := Option.some.inj H
      have q235 : (t364 : Int) ≤ ((t357.length : Int) : Int) := of_decide_eq_true (by first | (with_reducible assumption) | assumption)
      obtain ⟨i0235, hi0235, _, hsz235, _⟩ := info_parts info3
      have hroom235 : t357.length ≤ co175 := (Kd.R_reads' HO_40.out).2.1
      have hC235 : Kd.C (Kd.int .i64) _ Ao175 t357.length t357 := (Kd.R_reads' HO_40.out).2.2
      have hcut235 := cut_to (P := Tryd.prog) 25 3 .i64 Tryd.underlying25 hi0235 Ao175 t357.length co175 t364 (of_decide_eq_true (by first | (with_reducible assumption) | assumption)) q235 hroom235
      have hr235 := Kd.C_take (m := (t364 : Int).toNat) hC235 (by omega)
      have hy235 : y383.length = (t364 : Int).toNat := (by rw [Ny383.out, List.length_take]; omega)
      rw [← Ny383.out] at hr235
      rw [← hy235] at hcut235
      have HR386 := Aside0.mk hr235
      have HC386 := Aside0.mk (show y383.length ≤ co175 from by omega)
      clear hr235 hC235 hroom235 hi0235 hsz235
      have KY235 := Aside0.mk hy235
      clear hy235
      have KL235 := Aside0.mk (show (t364 : Int).toNat ≤ t357.length from by omega)
      replace q235 := eq_true q235
      go_wp2_with (first | (go_at_call 23; (with_reducible refine (impl_PlayMoves.calls kj194 t356 _ _ y383 t387 false _ ?side1 ?side2 A208.out).mono ?_); (case side1 => repeat (first | exact (by repeat (first | (with_reducible exact HR386.out) | (with_reducible refine Kd.C_alloc ?_ _) | (with_reducible refine Kd.C_drewN ?_ _) | (with_reducible refine Kd.C_drew ?_) | exact HR386.out)) | (with_reducible refine Kd.C_alloc ?_ _) | (with_reducible refine Kd.C_drewN ?_ _) | (with_reducible refine Kd.C_drew ?_))); (case side2 => exact HC386.out); rintro e w236 ⟨rfl, hb⟩; have n0_ := Aside0.mk (Kd.R_below (by (with_reducible repeat (first | apply Kd.R_alloc | apply Kd.R_drewN | apply Kd.R_drew)); exact HO_40.out) hb); have n1_ := Aside0.mk (Kd.C_below (by repeat (first | (with_reducible exact HR386.out) | (with_reducible refine Kd.C_alloc ?_ _) | (with_reducible refine Kd.C_drewN ?_ _) | (with_reducible refine Kd.C_drew ?_) | exact HR386.out)) hb); have n2_ := Aside0.mk (below_step (by repeat (first | (with_reducible first | exact HB.out | apply below_alloc | apply pw_below_drewN | apply below_drew1) | exact HB.out)) hb); clear HO_40; clear HR386; clear HB; have HO_40 := n0_; have HR386 := n1_; have HB := n2_; clear n0_ n1_ n2_; (try clear hb); (try clear hb2); (try clear hk); (try clear hi)))
      repeat (go_quiet (first | (go_at_call 23; (with_reducible refine (impl_PlayMoves.calls kj194 t356 _ _ y383 t387 false _ ?side1 ?side2 A208.out).mono ?_); (case side1 => repeat (first | exact (by repeat (first | (with_reducible exact HR386.out) | (with_reducible refine Kd.C_alloc ?_ _) | (with_reducible refine Kd.C_drewN ?_ _) | (with_reducible refine Kd.C_drew ?_) | exact HR386.out)) | (with_reducible refine Kd.C_alloc ?_ _) | (with_reducible refine Kd.C_drewN ?_ _) | (with_reducible refine Kd.C_drew ?_))); (case side2 => exact HC386.out); rintro e w236 ⟨rfl, hb⟩; have n0_ := Aside0.mk (Kd.R_below (by (with_reducible repeat (first | apply Kd.R_alloc | apply Kd.R_drewN | apply Kd.R_drew)); exact HO_40.out) hb); have n1_ := Aside0.mk (Kd.C_below (by repeat (first | (with_reducible exact HR386.out) | (with_reducible refine Kd.C_alloc ?_ _) | (with_reducible refine Kd.C_drewN ?_ _) | (with_reducible refine Kd.C_drew ?_) | exact HR386.out)) hb); have n2_ := Aside0.mk (below_step (by repeat (first | (with_reducible first | exact HB.out | apply below_alloc | apply pw_below_drewN | apply below_drew1) | exact HB.out)) hb); clear HO_40; clear HR386; clear HB; have HO_40 := n0_; have HR386 := n1_; have HB := n2_; clear n0_ n1_ n2_; (try clear hb); (try clear hb2); (try clear hk); (try clear hi))); try go_wp2_with (first | (go_at_call 23; (with_reducible refine (impl_PlayMoves.calls kj194 t356 _ _ y383 t387 false _ ?side1 ?side2 A208.out).mono ?_); (case side1 => repeat (first | exact (by repeat (first | (with_reducible exact HR386.out) | (with_reducible refine Kd.C_alloc ?_ _) | (with_reducible refine Kd.C_drewN ?_ _) | (with_reducible refine Kd.C_drew ?_) | exact HR386.out)) | (with_reducible refine Kd.C_alloc ?_ _) | (with_reducible refine Kd.C_drewN ?_ _) | (with_reducible refine Kd.C_drew ?_))); (case side2 => exact HC386.out); rintro e w236 ⟨rfl, hb⟩; have n0_ := Aside0.mk (Kd.R_below (by (with_reducible repeat (first | apply Kd.R_alloc | apply Kd.R_drewN | apply Kd.R_drew)); exact HO_40.out) hb); have n1_ := Aside0.mk (Kd.C_below (by repeat (first | (with_reducible exact HR386.out) | (with_reducible refine Kd.C_alloc ?_ _) | (with_reducible refine Kd.C_drewN ?_ _) | (with_reducible refine Kd.C_drew ?_) | exact HR386.out)) hb); have n2_ := Aside0.mk (below_step (by repeat (first | (with_reducible first | exact HB.out | apply below_alloc | apply pw_below_drewN | apply below_drew1) | exact HB.out)) hb); clear HO_40; clear HR386; clear HB; have HO_40 := n0_; have HR386 := n1_; have HB := n2_; clear n0_ n1_ n2_; (try clear hb); (try clear hb2); (try clear hk); (try clear hi))))
      go_ret
      exact ⟨by first | rfl | (simp [errW_none, errW_some] <;> rfl) | (simp [*, errW_none, errW_some] <;> rfl), by repeat (first | (with_reducible first | exact HB.out | apply below_alloc | apply pw_below_drewN | apply below_drew1) | exact HB.out)⟩
    ·rw [if_neg c207] at H
     exact absurd H (by simp)
   ·rw [if_neg c206] at H
    exact absurd H (by simp)
  ·replace c205 := Bool.eq_false_iff.mpr c205
   subst c205
   rw [if_neg (show ¬ (false = true) by decide)] at H
   have H1 := H
   clear H
   have H := H1
   clear H1
   by_cases c237 : t377 = true
   ·subst c237
    rw [if_pos rfl] at H
    have H1 := H
    clear H
    have H := H1
    clear H1
    replace H := Option.bind_eq_some_iff.mp H
    obtain ⟨⟨t394, t395⟩, A2380, H⟩ := H
    try dsimp +instances only at H
    replace H := H
    have A238 := Aside0.mk A2380
    clear A2380
    by_cases c239 : t395 = true
    ·subst c239
     rw [if_pos rfl] at H
     have H1 := H
     clear H
     have H := H1
     clear H1
     by_cases c240 : t394 = t375
     ·rw [if_pos c240] at H
      have c240b0 : (t394 == t375) = true := beq_iff_eq.mpr c240
      have c240b1 : (t394 != t375) = false := bne_eq_false_iff_eq.mpr c240
      clear c240
      obtain rfl := Option.some.inj H
      go_wp2_with (first | (go_at_call 8; (with_reducible refine (impl_NumberOfState.calls kj194 t376 t394 true _ A238.out).mono ?_); rintro e w241 ⟨rfl, hb⟩; have n0_ := Aside0.mk (Kd.R_below (by (with_reducible repeat (first | apply Kd.R_alloc | apply Kd.R_drewN | apply Kd.R_drew)); exact HO_40.out) hb); have n1_ := Aside0.mk (below_step (by repeat (first | (with_reducible first | exact HB.out | apply below_alloc | apply pw_below_drewN | apply below_drew1) | exact HB.out)) hb); clear HO_40; clear HB; have HO_40 := n0_; have HB := n1_; clear n0_ n1_; (try clear hb); (try clear hb2); (try clear hk); (try clear hi)))
      repeat (go_quiet (first | (go_at_call 8; (with_reducible refine (impl_NumberOfState.calls kj194 t376 t394 true _ A238.out).mono ?_); rintro e w241 ⟨rfl, hb⟩; have n0_ := Aside0.mk (Kd.R_below (by (with_reducible repeat (first | apply Kd.R_alloc | apply Kd.R_drewN | apply Kd.R_drew)); exact HO_40.out) hb); have n1_ := Aside0.mk (below_step (by repeat (first | (with_reducible first | exact HB.out | apply below_alloc | apply pw_below_drewN | apply below_drew1) | exact HB.out)) hb); clear HO_40; clear HB; have HO_40 := n0_; have HB := n1_; clear n0_ n1_; (try clear hb); (try clear hb2); (try clear hk); (try clear hi))); try go_wp2_with (first | (go_at_call 8; (with_reducible refine (impl_NumberOfState.calls kj194 t376 t394 true _ A238.out).mono ?_); rintro e w241 ⟨rfl, hb⟩; have n0_ := Aside0.mk (Kd.R_below (by (with_reducible repeat (first | apply Kd.R_alloc | apply Kd.R_drewN | apply Kd.R_drew)); exact HO_40.out) hb); have n1_ := Aside0.mk (below_step (by repeat (first | (with_reducible first | exact HB.out | apply below_alloc | apply pw_below_drewN | apply below_drew1) | exact HB.out)) hb); clear HO_40; clear HB; have HO_40 := n0_; have HB := n1_; clear n0_ n1_; (try clear hb); (try clear hb2); (try clear hk); (try clear hi))))
      go_ret
      exact ⟨by first | rfl | (simp [errW_none, errW_some] <;> rfl) | (simp [*, errW_none, errW_some] <;> rfl), by repeat (first | (with_reducible first | exact HB.out | apply below_alloc | apply pw_below_drewN | apply below_drew1) | exact HB.out)⟩
     ·rw [if_neg c240] at H
      have c240b0 : (t394 == t375) = false := beq_eq_false_iff_ne.mpr c240
      have c240b1 : (t394 != t375) = true := bne_iff_ne.mpr c240
      obtain rfl := Option.some.inj H
      go_wp2_with (first | (go_at_call 8; (with_reducible refine (impl_NumberOfState.calls kj194 t376 t394 true _ A238.out).mono ?_); rintro e w242 ⟨rfl, hb⟩; have n0_ := Aside0.mk (Kd.R_below (by (with_reducible repeat (first | apply Kd.R_alloc | apply Kd.R_drewN | apply Kd.R_drew)); exact HO_40.out) hb); have n1_ := Aside0.mk (below_step (by repeat (first | (with_reducible first | exact HB.out | apply below_alloc | apply pw_below_drewN | apply below_drew1) | exact HB.out)) hb); clear HO_40; clear HB; have HO_40 := n0_; have HB := n1_; clear n0_ n1_; (try clear hb); (try clear hb2); (try clear hk); (try clear hi)))
      repeat (go_quiet (first | (go_at_call 8; (with_reducible refine (impl_NumberOfState.calls kj194 t376 t394 true _ A238.out).mono ?_); rintro e w242 ⟨rfl, hb⟩; have n0_ := Aside0.mk (Kd.R_below (by (with_reducible repeat (first | apply Kd.R_alloc | apply Kd.R_drewN | apply Kd.R_drew)); exact HO_40.out) hb); have n1_ := Aside0.mk (below_step (by repeat (first | (with_reducible first | exact HB.out | apply below_alloc | apply pw_below_drewN | apply below_drew1) | exact HB.out)) hb); clear HO_40; clear HB; have HO_40 := n0_; have HB := n1_; clear n0_ n1_; (try clear hb); (try clear hb2); (try clear hk); (try clear hi))); try go_wp2_with (first | (go_at_call 8; (with_reducible refine (impl_NumberOfState.calls kj194 t376 t394 true _ A238.out).mono ?_); rintro e w242 ⟨rfl, hb⟩; have n0_ := Aside0.mk (Kd.R_below (by (with_reducible repeat (first | apply Kd.R_alloc | apply Kd.R_drewN | apply Kd.R_drew)); exact HO_40.out) hb); have n1_ := Aside0.mk (below_step (by repeat (first | (with_reducible first | exact HB.out | apply below_alloc | apply pw_below_drewN | apply below_drew1) | exact HB.out)) hb); clear HO_40; clear HB; have HO_40 := n0_; have HB := n1_; clear n0_ n1_; (try clear hb); (try clear hb2); (try clear hk); (try clear hi))))
      go_ret
      exact ⟨by first | rfl | (simp [errW_none, errW_some] <;> rfl) | (simp [*, errW_none, errW_some] <;> rfl), by repeat (first | (with_reducible first | exact HB.out | apply below_alloc | apply pw_below_drewN | apply below_drew1) | exact HB.out)⟩
    ·replace c239 := Bool.eq_false_iff.mpr c239
     subst c239
     rw [if_neg (show ¬ (false = true) by decide)] at H
     have H1 := H
     clear H
     have H := H1
     clear H1
     obtain rfl := Option.some.inj H
     go_wp2_with (first | (go_at_call 8; (with_reducible refine (impl_NumberOfState.calls kj194 t376 t394 false _ A238.out).mono ?_); rintro e w243 ⟨rfl, hb⟩; have n0_ := Aside0.mk (Kd.R_below (by (with_reducible repeat (first | apply Kd.R_alloc | apply Kd.R_drewN | apply Kd.R_drew)); exact HO_40.out) hb); have n1_ := Aside0.mk (below_step (by repeat (first | (with_reducible first | exact HB.out | apply below_alloc | apply pw_below_drewN | apply below_drew1) | exact HB.out)) hb); clear HO_40; clear HB; have HO_40 := n0_; have HB := n1_; clear n0_ n1_; (try clear hb); (try clear hb2); (try clear hk); (try clear hi)))
     repeat (go_quiet (first | (go_at_call 8; (with_reducible refine (impl_NumberOfState.calls kj194 t376 t394 false _ A238.out).mono ?_); rintro e w243 ⟨rfl, hb⟩; have n0_ := Aside0.mk (Kd.R_below (by (with_reducible repeat (first | apply Kd.R_alloc | apply Kd.R_drewN | apply Kd.R_drew)); exact HO_40.out) hb); have n1_ := Aside0.mk (below_step (by repeat (first | (with_reducible first | exact HB.out | apply below_alloc | apply pw_below_drewN | apply below_drew1) | exact HB.out)) hb); clear HO_40; clear HB; have HO_40 := n0_; have HB := n1_; clear n0_ n1_; (try clear hb); (try clear hb2); (try clear hk); (try clear hi))); try go_wp2_with (first | (go_at_call 8; (with_reducible refine (impl_NumberOfState.calls kj194 t376 t394 false _ A238.out).mono ?_); rintro e w243 ⟨rfl, hb⟩; have n0_ := Aside0.mk (Kd.R_below (by (with_reducible repeat (first | apply Kd.R_alloc | apply Kd.R_drewN | apply Kd.R_drew)); exact HO_40.out) hb); have n1_ := Aside0.mk (below_step (by repeat (first | (with_reducible first | exact HB.out | apply below_alloc | apply pw_below_drewN | apply below_drew1) | exact HB.out)) hb); clear HO_40; clear HB; have HO_40 := n0_; have HB := n1_; clear n0_ n1_; (try clear hb); (try clear hb2); (try clear hk); (try clear hi))))
     go_ret
     exact ⟨by first | rfl | (simp [errW_none, errW_some] <;> rfl) | (simp [*, errW_none, errW_some] <;> rfl), by repeat (first | (with_reducible first | exact HB.out | apply below_alloc | apply pw_below_drewN | apply below_drew1) | exact HB.out)⟩
   ·replace c237 := Bool.eq_false_iff.mpr c237
    subst c237
    rw [if_neg (show ¬ (false = true) by decide)] at H
    have H1 := H
    clear H
    have H := H1
    clear H1
    obtain rfl := Option.some.inj H
    go_wp2
    repeat (go_quiet (fail); try go_wp2)
    go_ret
    exact ⟨by first | rfl | (simp [errW_none, errW_some] <;> rfl) | (simp [*, errW_none, errW_some] <;> rfl), by repeat (first | (with_reducible first | exact HB.out | apply below_alloc | apply pw_below_drewN | apply below_drew1) | exact HB.out)⟩

theorem laws_FnRingsMove.c20 : laws_FnRingsMove.c19.1 := by
 intro k A0 c0 l0 A1 c1 l1 r w HR0 HC0 HR1 HC1 A3 t310 A5 t311 t312 A6 t315 t316 A7 t319 t320 A8 t321 t322 A9 t323 t324 A10 t325 t326 A11 t327 t328 t329 A12 t332 t333 t334 A13 _ _ w15 w16 v313 w17 v317 w18 _ w19 _ w20 v330 w21 v335 HO314 HO318 HO331 HO336 _ _ _ HO_6 HO_18 _ kj13 HJ13 _ _ kj89 HJ89 t356 t357 A162 t360 t361 A163 t362 t363 A164 t364 t366 t367 A166 t368 t369 A167 t370 t371 A168 t372 t373 A169 t374 t375 A170 t376 t377 A171 t378 t379 A172 w174 Ao175 co175 w176 _ w177 _ w178 w179 _ w180 w181 HO359 _ nd _ _ _ _ kj172 HJ172 _ _ f_ wc HO_40 HB kj194 HJ194 A165 c206b0 c206b1 c207b0 c207b1 y383 Ny383 t387 A208 c210b0 t390 t391 H A211 c212
 replace c212 := Bool.eq_false_iff.mpr c212
 subst c212
 rw [if_neg (show ¬ (false = true) by decide)] at H
 have H1 := H
 clear H
 have H := H1
 clear H1
 by_cases c216 : t377 = true
 ·subst c216
  rw [if_pos rfl] at H
  have H1 := H
  clear H
  have H := H1
  clear H1
  replace H := Option.bind_eq_some_iff.mp H
  obtain ⟨⟨t392, t393⟩, A2170, H⟩ := H
  try dsimp +instances only at H
  replace H := H
  have A217 := Aside0.mk A2170
  clear A2170
  by_cases c218 : t393 = true
  ·subst c218
   rw [if_pos rfl] at H
   have H1 := H
   clear H
   have H := H1
   clear H1
   by_cases c219 : t392 = t375
   ·rw [if_pos c219] at H
    have c219b0 : (t392 == t375) = true := beq_iff_eq.mpr c219
    have c219b1 : (t392 != t375) = false := bne_eq_false_iff_eq.mpr c219
    clear c219
    obtain rfl := Option.some.inj H
    have q220 : (t364 : Int) ≤ ((t357.length : Int) : Int) := of_decide_eq_true (by first | (with_reducible assumption) | assumption)
    obtain ⟨i0220, hi0220, _, hsz220, _⟩ := info_parts info3
    have hroom220 : t357.length ≤ co175 := (Kd.R_reads' HO_40.out).2.1
    have hC220 : Kd.C (Kd.int .i64) _ Ao175 t357.length t357 := (Kd.R_reads' HO_40.out).2.2
    have hcut220 := cut_to (P := Tryd.prog) 25 3 .i64 Tryd.underlying25 hi0220 Ao175 t357.length co175 t364 (of_decide_eq_true (by first | (with_reducible assumption) | assumption)) q220 hroom220
    have hr220 := Kd.C_take (m := (t364 : Int).toNat) hC220 (by omega)
    have hy220 : y383.length = (t364 : Int).toNat := (by rw [Ny383.out, List.length_take]; omega)
    rw [← Ny383.out] at hr220
    rw [← hy220] at hcut220
    have HR386 := Aside0.mk hr220
    have HC386 := Aside0.mk (show y383.length ≤ co175 from by omega)
    clear hr220 hC220 hroom220 hi0220 hsz220
    have KY220 := Aside0.mk hy220
    clear hy220
    have KL220 := Aside0.mk (show (t364 : Int).toNat ≤ t357.length from by omega)
    replace q220 := eq_true q220
    go_wp2_with (first | (go_at_call 23; (with_reducible refine (impl_PlayMoves.calls kj194 t356 _ _ y383 t387 true _ ?side1 ?side2 A208.out).mono ?_); (case side1 => repeat (first | exact (by repeat (first | (with_reducible exact HR386.out) | (with_reducible refine Kd.C_alloc ?_ _) | (with_reducible refine Kd.C_drewN ?_ _) | (with_reducible refine Kd.C_drew ?_) | exact HR386.out)) | (with_reducible refine Kd.C_alloc ?_ _) | (with_reducible refine Kd.C_drewN ?_ _) | (with_reducible refine Kd.C_drew ?_))); (case side2 => exact HC386.out); rintro e w221 ⟨rfl, hb⟩; have n0_ := Aside0.mk (Kd.R_below (by (with_reducible repeat (first | apply Kd.R_alloc | apply Kd.R_drewN | apply Kd.R_drew)); exact HO_40.out) hb); have n1_ := Aside0.mk (Kd.C_below (by repeat (first | (with_reducible exact HR386.out) | (with_reducible refine Kd.C_alloc ?_ _) | (with_reducible refine Kd.C_drewN ?_ _) | (with_reducible refine Kd.C_drew ?_) | exact HR386.out)) hb); have n2_ := Aside0.mk (below_step (by repeat (first | (with_reducible first | exact HB.out | apply below_alloc | apply pw_below_drewN | apply below_drew1) | exact HB.out)) hb); clear HO_40; clear HR386; clear HB; have HO_40 := n0_; have HR386 := n1_; have HB := n2_; clear n0_ n1_ n2_; (try clear hb); (try clear hb2); (try clear hk); (try clear hi); have p389 : 0 ≤ (t364 : Int) := of_decide_eq_true (by first | (with_reducible assumption) | assumption); have q389 : t364 < (t357.length : Int) := of_decide_eq_true (by first | (with_reducible assumption) | assumption); obtain ⟨ad389, e389, hx389_0⟩ := Kd.at_int (Kd.R_reads' HO_40.out).2.2 t364 p389 q389; cases e389; replace p389 := eq_true p389; replace q389 := eq_true q389) | (go_at_call 19; (with_reducible refine (impl_MoveRing.calls t387 (rd t357 t364) t390 false _ A211.out).mono ?_); rintro e w222 ⟨rfl, hb⟩; have n0_ := Aside0.mk (Kd.R_below (by (with_reducible repeat (first | apply Kd.R_alloc | apply Kd.R_drewN | apply Kd.R_drew)); exact HO_40.out) hb); have n1_ := Aside0.mk (Kd.C_below (by repeat (first | (with_reducible exact HR386.out) | (with_reducible refine Kd.C_alloc ?_ _) | (with_reducible refine Kd.C_drewN ?_ _) | (with_reducible refine Kd.C_drew ?_) | exact HR386.out)) hb); have n2_ := Aside0.mk (below_step (by repeat (first | (with_reducible first | exact HB.out | apply below_alloc | apply pw_below_drewN | apply below_drew1) | exact HB.out)) hb); clear HO_40; clear HR386; clear HB; have HO_40 := n0_; have HR386 := n1_; have HB := n2_; clear n0_ n1_ n2_; (try clear hb); (try clear hb2); (try clear hk); (try clear hi)) | (go_at_call 8; (with_reducible refine (impl_NumberOfState.calls kj194 t376 t392 true _ A217.out).mono ?_); rintro e w223 ⟨rfl, hb⟩; have n0_ := Aside0.mk (Kd.R_below (by (with_reducible repeat (first | apply Kd.R_alloc | apply Kd.R_drewN | apply Kd.R_drew)); exact HO_40.out) hb); have n1_ := Aside0.mk (Kd.C_below (by repeat (first | (with_reducible exact HR386.out) | (with_reducible refine Kd.C_alloc ?_ _) | (with_reducible refine Kd.C_drewN ?_ _) | (with_reducible refine Kd.C_drew ?_) | exact HR386.out)) hb); have n2_ := Aside0.mk (below_step (by repeat (first | (with_reducible first | exact HB.out | apply below_alloc | apply pw_below_drewN | apply below_drew1) | exact HB.out)) hb); clear HO_40; clear HR386; clear HB; have HO_40 := n0_; have HR386 := n1_; have HB := n2_; clear n0_ n1_ n2_; (try clear hb); (try clear hb2); (try clear hk); (try clear hi)))
    repeat (go_quiet (first | (go_at_call 23; (with_reducible refine (impl_PlayMoves.calls kj194 t356 _ _ y383 t387 true _ ?side1 ?side2 A208.out).mono ?_); (case side1 => repeat (first | exact (by repeat (first | (with_reducible exact HR386.out) | (with_reducible refine Kd.C_alloc ?_ _) | (with_reducible refine Kd.C_drewN ?_ _) | (with_reducible refine Kd.C_drew ?_) | exact HR386.out)) | (with_reducible refine Kd.C_alloc ?_ _) | (with_reducible refine Kd.C_drewN ?_ _) | (with_reducible refine Kd.C_drew ?_))); (case side2 => exact HC386.out); rintro e w221 ⟨rfl, hb⟩; have n0_ := Aside0.mk (Kd.R_below (by (with_reducible repeat (first | apply Kd.R_alloc | apply Kd.R_drewN | apply Kd.R_drew)); exact HO_40.out) hb); have n1_ := Aside0.mk (Kd.C_below (by repeat (first | (with_reducible exact HR386.out) | (with_reducible refine Kd.C_alloc ?_ _) | (with_reducible refine Kd.C_drewN ?_ _) | (with_reducible refine Kd.C_drew ?_) | exact HR386.out)) hb); have n2_ := Aside0.mk (below_step (by repeat (first | (with_reducible first | exact HB.out | apply below_alloc | apply pw_below_drewN | apply below_drew1) | exact HB.out)) hb); clear HO_40; clear HR386; clear HB; have HO_40 := n0_; have HR386 := n1_; have HB := n2_; clear n0_ n1_ n2_; (try clear hb); (try clear hb2); (try clear hk); (try clear hi); have p389 : 0 ≤ (t364 : Int) := of_decide_eq_true (by first | (with_reducible assumption) | assumption); have q389 : t364 < (t357.length : Int) := of_decide_eq_true (by first | (with_reducible assumption) | assumption); obtain ⟨ad389, e389, hx389_0⟩ := Kd.at_int (Kd.R_reads' HO_40.out).2.2 t364 p389 q389; cases e389; replace p389 := eq_true p389; replace q389 := eq_true q389) | (go_at_call 19; (with_reducible refine (impl_MoveRing.calls t387 (rd t357 t364) t390 false _ A211.out).mono ?_); rintro e w222 ⟨rfl, hb⟩; have n0_ := Aside0.mk (Kd.R_below (by (with_reducible repeat (first | apply Kd.R_alloc | apply Kd.R_drewN | apply Kd.R_drew)); exact HO_40.out) hb); have n1_ := Aside0.mk (Kd.C_below (by repeat (first | (with_reducible exact HR386.out) | (with_reducible refine Kd.C_alloc ?_ _) | (with_reducible refine Kd.C_drewN ?_ _) | (with_reducible refine Kd.C_drew ?_) | exact HR386.out)) hb); have n2_ := Aside0.mk (below_step (by repeat (first | (with_reducible first | exact HB.out | apply below_alloc | apply pw_below_drewN | apply below_drew1) | exact HB.out)) hb); clear HO_40; clear HR386; clear HB; have HO_40 := n0_; have HR386 := n1_; have HB := n2_; clear n0_ n1_ n2_; (try clear hb); (try clear hb2); (try clear hk); (try clear hi)) | (go_at_call 8; (with_reducible refine (impl_NumberOfState.calls kj194 t376 t392 true _ A217.out).mono ?_); rintro e w223 ⟨rfl, hb⟩; have n0_ := Aside0.mk (Kd.R_below (by (with_reducible repeat (first | apply Kd.R_alloc | apply Kd.R_drewN | apply Kd.R_drew)); exact HO_40.out) hb); have n1_ := Aside0.mk (Kd.C_below (by repeat (first | (with_reducible exact HR386.out) | (with_reducible refine Kd.C_alloc ?_ _) | (with_reducible refine Kd.C_drewN ?_ _) | (with_reducible refine Kd.C_drew ?_) | exact HR386.out)) hb); have n2_ := Aside0.mk (below_step (by repeat (first | (with_reducible first | exact HB.out | apply below_alloc | apply pw_below_drewN | apply below_drew1) | exact HB.out)) hb); clear HO_40; clear HR386; clear HB; have HO_40 := n0_; have HR386 := n1_; have HB := n2_; clear n0_ n1_ n2_; (try clear hb); (try clear hb2); (try clear hk); (try clear hi))); try go_wp2_with (first | (go_at_call 23; (with_reducible refine (impl_PlayMoves.calls kj194 t356 _ _ y383 t387 true _ ?side1 ?side2 A208.out).mono ?_); (case side1 => repeat (first | exact (by repeat (first | (with_reducible exact HR386.out) | (with_reducible refine Kd.C_alloc ?_ _) | (with_reducible refine Kd.C_drewN ?_ _) | (with_reducible refine Kd.C_drew ?_) | exact HR386.out)) | (with_reducible refine Kd.C_alloc ?_ _) | (with_reducible refine Kd.C_drewN ?_ _) | (with_reducible refine Kd.C_drew ?_))); (case side2 => exact HC386.out); rintro e w221 ⟨rfl, hb⟩; have n0_ := Aside0.mk (Kd.R_below (by (with_reducible repeat (first | apply Kd.R_alloc | apply Kd.R_drewN | apply Kd.R_drew)); exact HO_40.out) hb); have n1_ := Aside0.mk (Kd.C_below (by repeat (first | (with_reducible exact HR386.out) | (with_reducible refine Kd.C_alloc ?_ _) | (with_reducible refine Kd.C_drewN ?_ _) | (with_reducible refine Kd.C_drew ?_) | exact HR386.out)) hb); have n2_ := Aside0.mk (below_step (by repeat (first | (with_reducible first | exact HB.out | apply below_alloc | apply pw_below_drewN | apply below_drew1) | exact HB.out)) hb); clear HO_40; clear HR386; clear HB; have HO_40 := n0_; have HR386 := n1_; have HB := n2_; clear n0_ n1_ n2_; (try clear hb); (try clear hb2); (try clear hk); (try clear hi); have p389 : 0 ≤ (t364 : Int) := of_decide_eq_true (by first | (with_reducible assumption) | assumption); have q389 : t364 < (t357.length : Int) := of_decide_eq_true (by first | (with_reducible assumption) | assumption); obtain ⟨ad389, e389, hx389_0⟩ := Kd.at_int (Kd.R_reads' HO_40.out).2.2 t364 p389 q389; cases e389; replace p389 := eq_true p389; replace q389 := eq_true q389) | (go_at_call 19; (with_reducible refine (impl_MoveRing.calls t387 (rd t357 t364) t390 false _ A211.out).mono ?_); rintro e w222 ⟨rfl, hb⟩; have n0_ := Aside0.mk (Kd.R_below (by (with_reducible repeat (first | apply Kd.R_alloc | apply Kd.R_drewN | apply Kd.R_drew)); exact HO_40.out) hb); have n1_ := Aside0.mk (Kd.C_below (by repeat (first | (with_reducible exact HR386.out) | (with_reducible refine Kd.C_alloc ?_ _) | (with_reducible refine Kd.C_drewN ?_ _) | (with_reducible refine Kd.C_drew ?_) | exact HR386.out)) hb); have n2_ := Aside0.mk (below_step (by repeat (first | (with_reducible first | exact HB.out | apply below_alloc | apply pw_below_drewN | apply below_drew1) | exact HB.out)) hb); clear HO_40; clear HR386; clear HB; have HO_40 := n0_; have HR386 := n1_; have HB := n2_; clear n0_ n1_ n2_; (try clear hb); (try clear hb2); (try clear hk); (try clear hi)) | (go_at_call 8; (with_reducible refine (impl_NumberOfState.calls kj194 t376 t392 true _ A217.out).mono ?_); rintro e w223 ⟨rfl, hb⟩; have n0_ := Aside0.mk (Kd.R_below (by (with_reducible repeat (first | apply Kd.R_alloc | apply Kd.R_drewN | apply Kd.R_drew)); exact HO_40.out) hb); have n1_ := Aside0.mk (Kd.C_below (by repeat (first | (with_reducible exact HR386.out) | (with_reducible refine Kd.C_alloc ?_ _) | (with_reducible refine Kd.C_drewN ?_ _) | (with_reducible refine Kd.C_drew ?_) | exact HR386.out)) hb); have n2_ := Aside0.mk (below_step (by repeat (first | (with_reducible first | exact HB.out | apply below_alloc | apply pw_below_drewN | apply below_drew1) | exact HB.out)) hb); clear HO_40; clear HR386; clear HB; have HO_40 := n0_; have HR386 := n1_; have HB := n2_; clear n0_ n1_ n2_; (try clear hb); (try clear hb2); (try clear hk); (try clear hi))))
    go_ret
    exact ⟨by first | rfl | (simp [errW_none, errW_some] <;> rfl) | (simp [*, errW_none, errW_some] <;> rfl), by repeat (first | (with_reducible first | exact HB.out | apply below_alloc | apply pw_below_drewN | apply below_drew1) | exact HB.out)⟩
   ·rw [if_neg c219] at H
    have c219b0 : (t392 == t375) = false := beq_eq_false_iff_ne.mpr c219
    have c219b1 : (t392 != t375) = true := bne_iff_ne.mpr c219
    obtain rfl := Option.some.inj H
    have q224 : (t364 : Int) ≤ ((t357.length : Int) : Int) := of_decide_eq_true (by first | (with_reducible assumption) | assumption)
    obtain ⟨i0224, hi0224, _, hsz224, _⟩ := info_parts info3
    have hroom224 : t357.length ≤ co175 := (Kd.R_reads' HO_40.out).2.1
    have hC224 : Kd.C (Kd.int .i64) _ Ao175 t357.length t357 := (Kd.R_reads' HO_40.out).2.2
    have hcut224 := cut_to (P := Tryd.prog) 25 3 .i64 Tryd.underlying25 hi0224 Ao175 t357.length co175 t364 (of_decide_eq_true (by first | (with_reducible assumption) | assumption)) q224 hroom224
    have hr224 := Kd.C_take (m := (t364 : Int).toNat) hC224 (by omega)
    have hy224 : y383.length = (t364 : Int).toNat := (by rw [Ny383.out, List.length_take]; omega)
    rw [← Ny383.out] at hr224
    rw [← hy224] at hcut224
    have HR386 := Aside0.mk hr224
    have HC386 := Aside0.mk (show y383.length ≤ co175 from by omega)
    clear hr224 hC224 hroom224 hi0224 hsz224
    have KY224 := Aside0.mk hy224
    clear hy224
    have KL224 := Aside0.mk (show (t364 : Int).toNat ≤ t357.length from by omega)
    replace q224 := eq_true q224
    go_wp2_with (first | (go_at_call 23; (with_reducible refine (impl_PlayMoves.calls kj194 t356 _ _ y383 t387 true _ ?side1 ?side2 A208.out).mono ?_); (case side1 => repeat (first | exact (by repeat (first | (with_reducible exact HR386.out) | (with_reducible refine Kd.C_alloc ?_ _) | (with_reducible refine Kd.C_drewN ?_ _) | (with_reducible refine Kd.C_drew ?_) | exact HR386.out)) | (with_reducible refine Kd.C_alloc ?_ _) | (with_reducible refine Kd.C_drewN ?_ _) | (with_reducible refine Kd.C_drew ?_))); (case side2 => exact HC386.out); rintro e w225 ⟨rfl, hb⟩; have n0_ := Aside0.mk (Kd.R_below (by (with_reducible repeat (first | apply Kd.R_alloc | apply Kd.R_drewN | apply Kd.R_drew)); exact HO_40.out) hb); have n1_ := Aside0.mk (Kd.C_below (by repeat (first | (with_reducible exact HR386.out) | (with_reducible refine Kd.C_alloc ?_ _) | (with_reducible refine Kd.C_drewN ?_ _) | (with_reducible refine Kd.C_drew ?_) | exact HR386.out)) hb); have n2_ := Aside0.mk (below_step (by repeat (first | (with_reducible first | exact HB.out | apply below_alloc | apply pw_below_drewN | apply below_drew1) | exact HB.out)) hb); clear HO_40; clear HR386; clear HB; have HO_40 := n0_; have HR386 := n1_; have HB := n2_; clear n0_ n1_ n2_; (try clear hb); (try clear hb2); (try clear hk); (try clear hi); have p389 : 0 ≤ (t364 : Int) := of_decide_eq_true (by first | (with_reducible assumption) | assumption); have q389 : t364 < (t357.length : Int) := of_decide_eq_true (by first | (with_reducible assumption) | assumption); obtain ⟨ad389, e389, hx389_0⟩ := Kd.at_int (Kd.R_reads' HO_40.out).2.2 t364 p389 q389; cases e389; replace p389 := eq_true p389; replace q389 := eq_true q389) | (go_at_call 19; (with_reducible refine (impl_MoveRing.calls t387 (rd t357 t364) t390 false _ A211.out).mono ?_); rintro e w226 ⟨rfl, hb⟩; have n0_ := Aside0.mk (Kd.R_below (by (with_reducible repeat (first | apply Kd.R_alloc | apply Kd.R_drewN | apply Kd.R_drew)); exact HO_40.out) hb); have n1_ := Aside0.mk (Kd.C_below (by repeat (first | (with_reducible exact HR386.out) | (with_reducible refine Kd.C_alloc ?_ _) | (with_reducible refine Kd.C_drewN ?_ _) | (with_reducible refine Kd.C_drew ?_) | exact HR386.out)) hb); have n2_ := Aside0.mk (below_step (by repeat (first | (with_reducible first | exact HB.out | apply below_alloc | apply pw_below_drewN | apply below_drew1) | exact HB.out)) hb); clear HO_40; clear HR386; clear HB; have HO_40 := n0_; have HR386 := n1_; have HB := n2_; clear n0_ n1_ n2_; (try clear hb); (try clear hb2); (try clear hk); (try clear hi)) | (go_at_call 8; (with_reducible refine (impl_NumberOfState.calls kj194 t376 t392 true _ A217.out).mono ?_); rintro e w227 ⟨rfl, hb⟩; have n0_ := Aside0.mk (Kd.R_below (by (with_reducible repeat (first | apply Kd.R_alloc | apply Kd.R_drewN | apply Kd.R_drew)); exact HO_40.out) hb); have n1_ := Aside0.mk (Kd.C_below (by repeat (first | (with_reducible exact HR386.out) | (with_reducible refine Kd.C_alloc ?_ _) | (with_reducible refine Kd.C_drewN ?_ _) | (with_reducible refine Kd.C_drew ?_) | exact HR386.out)) hb); have n2_ := Aside0.mk (below_step (by repeat (first | (with_reducible first | exact HB.out | apply below_alloc | apply pw_below_drewN | apply below_drew1) | exact HB.out)) hb); clear HO_40; clear HR386; clear HB; have HO_40 := n0_; have HR386 := n1_; have HB := n2_; clear n0_ n1_ n2_; (try clear hb); (try clear hb2); (try clear hk); (try clear hi)))
    repeat (go_quiet (first | (go_at_call 23; (with_reducible refine (impl_PlayMoves.calls kj194 t356 _ _ y383 t387 true _ ?side1 ?side2 A208.out).mono ?_); (case side1 => repeat (first | exact (by repeat (first | (with_reducible exact HR386.out) | (with_reducible refine Kd.C_alloc ?_ _) | (with_reducible refine Kd.C_drewN ?_ _) | (with_reducible refine Kd.C_drew ?_) | exact HR386.out)) | (with_reducible refine Kd.C_alloc ?_ _) | (with_reducible refine Kd.C_drewN ?_ _) | (with_reducible refine Kd.C_drew ?_))); (case side2 => exact HC386.out); rintro e w225 ⟨rfl, hb⟩; have n0_ := Aside0.mk (Kd.R_below (by (with_reducible repeat (first | apply Kd.R_alloc | apply Kd.R_drewN | apply Kd.R_drew)); exact HO_40.out) hb); have n1_ := Aside0.mk (Kd.C_below (by repeat (first | (with_reducible exact HR386.out) | (with_reducible refine Kd.C_alloc ?_ _) | (with_reducible refine Kd.C_drewN ?_ _) | (with_reducible refine Kd.C_drew ?_) | exact HR386.out)) hb); have n2_ := Aside0.mk (below_step (by repeat (first | (with_reducible first | exact HB.out | apply below_alloc | apply pw_below_drewN | apply below_drew1) | exact HB.out)) hb); clear HO_40; clear HR386; clear HB; have HO_40 := n0_; have HR386 := n1_; have HB := n2_; clear n0_ n1_ n2_; (try clear hb); (try clear hb2); (try clear hk); (try clear hi); have p389 : 0 ≤ (t364 : Int) := of_decide_eq_true (by first | (with_reducible assumption) | assumption); have q389 : t364 < (t357.length : Int) := of_decide_eq_true (by first | (with_reducible assumption) | assumption); obtain ⟨ad389, e389, hx389_0⟩ := Kd.at_int (Kd.R_reads' HO_40.out).2.2 t364 p389 q389; cases e389; replace p389 := eq_true p389; replace q389 := eq_true q389) | (go_at_call 19; (with_reducible refine (impl_MoveRing.calls t387 (rd t357 t364) t390 false _ A211.out).mono ?_); rintro e w226 ⟨rfl, hb⟩; have n0_ := Aside0.mk (Kd.R_below (by (with_reducible repeat (first | apply Kd.R_alloc | apply Kd.R_drewN | apply Kd.R_drew)); exact HO_40.out) hb); have n1_ := Aside0.mk (Kd.C_below (by repeat (first | (with_reducible exact HR386.out) | (with_reducible refine Kd.C_alloc ?_ _) | (with_reducible refine Kd.C_drewN ?_ _) | (with_reducible refine Kd.C_drew ?_) | exact HR386.out)) hb); have n2_ := Aside0.mk (below_step (by repeat (first | (with_reducible first | exact HB.out | apply below_alloc | apply pw_below_drewN | apply below_drew1) | exact HB.out)) hb); clear HO_40; clear HR386; clear HB; have HO_40 := n0_; have HR386 := n1_; have HB := n2_; clear n0_ n1_ n2_; (try clear hb); (try clear hb2); (try clear hk); (try clear hi)) | (go_at_call 8; (with_reducible refine (impl_NumberOfState.calls kj194 t376 t392 true _ A217.out).mono ?_); rintro e w227 ⟨rfl, hb⟩; have n0_ := Aside0.mk (Kd.R_below (by (with_reducible repeat (first | apply Kd.R_alloc | apply Kd.R_drewN | apply Kd.R_drew)); exact HO_40.out) hb); have n1_ := Aside0.mk (Kd.C_below (by repeat (first | (with_reducible exact HR386.out) | (with_reducible refine Kd.C_alloc ?_ _) | (with_reducible refine Kd.C_drewN ?_ _) | (with_reducible refine Kd.C_drew ?_) | exact HR386.out)) hb); have n2_ := Aside0.mk (below_step (by repeat (first | (with_reducible first | exact HB.out | apply below_alloc | apply pw_below_drewN | apply below_drew1) | exact HB.out)) hb); clear HO_40; clear HR386; clear HB; have HO_40 := n0_; have HR386 := n1_; have HB := n2_; clear n0_ n1_ n2_; (try clear hb); (try clear hb2); (try clear hk); (try clear hi))); try go_wp2_with (first | (go_at_call 23; (with_reducible refine (impl_PlayMoves.calls kj194 t356 _ _ y383 t387 true _ ?side1 ?side2 A208.out).mono ?_); (case side1 => repeat (first | exact (by repeat (first | (with_reducible exact HR386.out) | (with_reducible refine Kd.C_alloc ?_ _) | (with_reducible refine Kd.C_drewN ?_ _) | (with_reducible refine Kd.C_drew ?_) | exact HR386.out)) | (with_reducible refine Kd.C_alloc ?_ _) | (with_reducible refine Kd.C_drewN ?_ _) | (with_reducible refine Kd.C_drew ?_))); (case side2 => exact HC386.out); rintro e w225 ⟨rfl, hb⟩; have n0_ := Aside0.mk (Kd.R_below (by (with_reducible repeat (first | apply Kd.R_alloc | apply Kd.R_drewN | apply Kd.R_drew)); exact HO_40.out) hb); have n1_ := Aside0.mk (Kd.C_below (by repeat (first | (with_reducible exact HR386.out) | (with_reducible refine Kd.C_alloc ?_ _) | (with_reducible refine Kd.C_drewN ?_ _) | (with_reducible refine Kd.C_drew ?_) | exact HR386.out)) hb); have n2_ := Aside0.mk (below_step (by repeat (first | (with_reducible first | exact HB.out | apply below_alloc | apply pw_below_drewN | apply below_drew1) | exact HB.out)) hb); clear HO_40; clear HR386; clear HB; have HO_40 := n0_; have HR386 := n1_; have HB := n2_; clear n0_ n1_ n2_; (try clear hb); (try clear hb2); (try clear hk); (try clear hi); have p389 : 0 ≤ (t364 : Int) := of_decide_eq_true (by first | (with_reducible assumption) | assumption); have q389 : t364 < (t357.length : Int) := of_decide_eq_true (by first | (with_reducible assumption) | assumption); obtain ⟨ad389, e389, hx389_0⟩ := Kd.at_int (Kd.R_reads' HO_40.out).2.2 t364 p389 q389; cases e389; replace p389 := eq_true p389; replace q389 := eq_true q389) | (go_at_call 19; (with_reducible refine (impl_MoveRing.calls t387 (rd t357 t364) t390 false _ A211.out).mono ?_); rintro e w226 ⟨rfl, hb⟩; have n0_ := Aside0.mk (Kd.R_below (by (with_reducible repeat (first | apply Kd.R_alloc | apply Kd.R_drewN | apply Kd.R_drew)); exact HO_40.out) hb); have n1_ := Aside0.mk (Kd.C_below (by repeat (first | (with_reducible exact HR386.out) | (with_reducible refine Kd.C_alloc ?_ _) | (with_reducible refine Kd.C_drewN ?_ _) | (with_reducible refine Kd.C_drew ?_) | exact HR386.out)) hb); have n2_ := Aside0.mk (below_step (by repeat (first | (with_reducible first | exact HB.out | apply below_alloc | apply pw_below_drewN | apply below_drew1) | exact HB.out)) hb); clear HO_40; clear HR386; clear HB; have HO_40 := n0_; have HR386 := n1_; have HB := n2_; clear n0_ n1_ n2_; (try clear hb); (try clear hb2); (try clear hk); (try clear hi)) | (go_at_call 8; (with_reducible refine (impl_NumberOfState.calls kj194 t376 t392 true _ A217.out).mono ?_); rintro e w227 ⟨rfl, hb⟩; have n0_ := Aside0.mk (Kd.R_below (by (with_reducible repeat (first | apply Kd.R_alloc | apply Kd.R_drewN | apply Kd.R_drew)); exact HO_40.out) hb); have n1_ := Aside0.mk (Kd.C_below (by repeat (first | (with_reducible exact HR386.out) | (with_reducible refine Kd.C_alloc ?_ _) | (with_reducible refine Kd.C_drewN ?_ _) | (with_reducible refine Kd.C_drew ?_) | exact HR386.out)) hb); have n2_ := Aside0.mk (below_step (by repeat (first | (with_reducible first | exact HB.out | apply below_alloc | apply pw_below_drewN | apply below_drew1) | exact HB.out)) hb); clear HO_40; clear HR386; clear HB; have HO_40 := n0_; have HR386 := n1_; have HB := n2_; clear n0_ n1_ n2_; (try clear hb); (try clear hb2); (try clear hk); (try clear hi))))
    go_ret
    exact ⟨by first | rfl | (simp [errW_none, errW_some] <;> rfl) | (simp [*, errW_none, errW_some] <;> rfl), by repeat (first | (with_reducible first | exact HB.out | apply below_alloc | apply pw_below_drewN | apply below_drew1) | exact HB.out)⟩
  ·replace c218 := Bool.eq_false_iff.mpr c218
   subst c218
   rw [if_neg (show ¬ (false = true) by decide)] at H
   have H1 := H
   clear H
   have H := H1
   clear H1
   obtain rfl := Option.some.inj H
   have q228 : (t364 : Int) ≤ ((t357.length : Int) : Int) := of_decide_eq_true (by first | (with_reducible assumption) | assumption)
   obtain ⟨i0228, hi0228, _, hsz228, _⟩ := info_parts info3
   have hroom228 : t357.length ≤ co175 := (Kd.R_reads' HO_40.out).2.1
   have hC228 : Kd.C (Kd.int .i64) _ Ao175 t357.length t357 := (Kd.R_reads' HO_40.out).2.2
   have hcut228 := cut_to (P := Tryd.prog) 25 3 .i64 Tryd.underlying25 hi0228 Ao175 t357.length co175 t364 (of_decide_eq_true (by first | (with_reducible assumption) | assumption)) q228 hroom228
   have hr228 := Kd.C_take (m := (t364 : Int).toNat) hC228 (by omega)
   have hy228 : y383.length = (t364 : Int).toNat := (by rw [Ny383.out, List.length_take]; omega)
   rw [← Ny383.out] at hr228
   rw [← hy228] at hcut228
   have HR386 := Aside0.mk hr228
   have HC386 := Aside0.mk (show y383.length ≤ co175 from by omega)
   clear hr228 hC228 hroom228 hi0228 hsz228
   have KY228 := Aside0.mk hy228
   clear hy228
   have KL228 := Aside0.mk (show (t364 : Int).toNat ≤ t357.length from by omega)
   replace q228 := eq_true q228
   go_wp2_with (first | (go_at_call 23; (with_reducible refine (impl_PlayMoves.calls kj194 t356 _ _ y383 t387 true _ ?side1 ?side2 A208.out).mono ?_); (case side1 => repeat (first | exact (by repeat (first | (with_reducible exact HR386.out) | (with_reducible refine Kd.C_alloc ?_ _) | (with_reducible refine Kd.C_drewN ?_ _) | (with_reducible refine Kd.C_drew ?_) | exact HR386.out)) | (with_reducible refine Kd.C_alloc ?_ _) | (with_reducible refine Kd.C_drewN ?_ _) | (with_reducible refine Kd.C_drew ?_))); (case side2 => exact HC386.out); rintro e w229 ⟨rfl, hb⟩; have n0_ := Aside0.mk (Kd.R_below (by (with_reducible repeat (first | apply Kd.R_alloc | apply Kd.R_drewN | apply Kd.R_drew)); exact HO_40.out) hb); have n1_ := Aside0.mk (Kd.C_below (by repeat (first | (with_reducible exact HR386.out) | (with_reducible refine Kd.C_alloc ?_ _) | (with_reducible refine Kd.C_drewN ?_ _) | (with_reducible refine Kd.C_drew ?_) | exact HR386.out)) hb); have n2_ := Aside0.mk (below_step (by repeat (first | (with_reducible first | exact HB.out | apply below_alloc | apply pw_below_drewN | apply below_drew1) | exact HB.out)) hb); clear HO_40; clear HR386; clear HB; have HO_40 := n0_; have HR386 := n1_; have HB := n2_; clear n0_ n1_ n2_; (try clear hb); (try clear hb2); (try clear hk); (try clear hi); have p389 : 0 ≤ (t364 : Int) := of_decide_eq_true (by first | (with_reducible assumption) | assumption); have q389 : t364 < (t357.length : Int) := of_decide_eq_true (by first | (with_reducible assumption) | assumption); obtain ⟨ad389, e389, hx389_0⟩ := Kd.at_int (Kd.R_reads' HO_40.out).2.2 t364 p389 q389; cases e389; replace p389 := eq_true p389; replace q389 := eq_true q389) | (go_at_call 19; (with_reducible refine (impl_MoveRing.calls t387 (rd t357 t364) t390 false _ A211.out).mono ?_); rintro e w230 ⟨rfl, hb⟩; have n0_ := Aside0.mk (Kd.R_below (by (with_reducible repeat (first | apply Kd.R_alloc | apply Kd.R_drewN | apply Kd.R_drew)); exact HO_40.out) hb); have n1_ := Aside0.mk (Kd.C_below (by repeat (first | (with_reducible exact HR386.out) | (with_reducible refine Kd.C_alloc ?_ _) | (with_reducible refine Kd.C_drewN ?_ _) | (with_reducible refine Kd.C_drew ?_) | exact HR386.out)) hb); have n2_ := Aside0.mk (below_step (by repeat (first | (with_reducible first | exact HB.out | apply below_alloc | apply pw_below_drewN | apply below_drew1) | exact HB.out)) hb); clear HO_40; clear HR386; clear HB; have HO_40 := n0_; have HR386 := n1_; have HB := n2_; clear n0_ n1_ n2_; (try clear hb); (try clear hb2); (try clear hk); (try clear hi)) | (go_at_call 8; (with_reducible refine (impl_NumberOfState.calls kj194 t376 t392 false _ A217.out).mono ?_); rintro e w231 ⟨rfl, hb⟩; have n0_ := Aside0.mk (Kd.R_below (by (with_reducible repeat (first | apply Kd.R_alloc | apply Kd.R_drewN | apply Kd.R_drew)); exact HO_40.out) hb); have n1_ := Aside0.mk (Kd.C_below (by repeat (first | (with_reducible exact HR386.out) | (with_reducible refine Kd.C_alloc ?_ _) | (with_reducible refine Kd.C_drewN ?_ _) | (with_reducible refine Kd.C_drew ?_) | exact HR386.out)) hb); have n2_ := Aside0.mk (below_step (by repeat (first | (with_reducible first | exact HB.out | apply below_alloc | apply pw_below_drewN | apply below_drew1) | exact HB.out)) hb); clear HO_40; clear HR386; clear HB; have HO_40 := n0_; have HR386 := n1_; have HB := n2_; clear n0_ n1_ n2_; (try clear hb); (try clear hb2); (try clear hk); (try clear hi)))
   repeat (go_quiet (first | (go_at_call 23; (with_reducible refine (impl_PlayMoves.calls kj194 t356 _ _ y383 t387 true _ ?side1 ?side2 A208.out).mono ?_); (case side1 => repeat (first | exact (by repeat (first | (with_reducible exact HR386.out) | (with_reducible refine Kd.C_alloc ?_ _) | (with_reducible refine Kd.C_drewN ?_ _) | (with_reducible refine Kd.C_drew ?_) | exact HR386.out)) | (with_reducible refine Kd.C_alloc ?_ _) | (with_reducible refine Kd.C_drewN ?_ _) | (with_reducible refine Kd.C_drew ?_))); (case side2 => exact HC386.out); rintro e w229 ⟨rfl, hb⟩; have n0_ := Aside0.mk (Kd.R_below (by (with_reducible repeat (first | apply Kd.R_alloc | apply Kd.R_drewN | apply Kd.R_drew)); exact HO_40.out) hb); have n1_ := Aside0.mk (Kd.C_below (by repeat (first | (with_reducible exact HR386.out) | (with_reducible refine Kd.C_alloc ?_ _) | (with_reducible refine Kd.C_drewN ?_ _) | (with_reducible refine Kd.C_drew ?_) | exact HR386.out)) hb); have n2_ := Aside0.mk (below_step (by repeat (first | (with_reducible first | exact HB.out | apply below_alloc | apply pw_below_drewN | apply below_drew1) | exact HB.out)) hb); clear HO_40; clear HR386; clear HB; have HO_40 := n0_; have HR386 := n1_; have HB := n2_; clear n0_ n1_ n2_; (try clear hb); (try clear hb2); (try clear hk); (try clear hi); have p389 : 0 ≤ (t364 : Int) := of_decide_eq_true (by first | (with_reducible assumption) | assumption); have q389 : t364 < (t357.length : Int) := of_decide_eq_true (by first | (with_reducible assumption) | assumption); obtain ⟨ad389, e389, hx389_0⟩ := Kd.at_int (Kd.R_reads' HO_40.out).2.2 t364 p389 q389; cases e389; replace p389 := eq_true p389; replace q389 := eq_true q389) | (go_at_call 19; (with_reducible refine (impl_MoveRing.calls t387 (rd t357 t364) t390 false _ A211.out).mono ?_); rintro e w230 ⟨rfl, hb⟩; have n0_ := Aside0.mk (Kd.R_below (by (with_reducible repeat (first | apply Kd.R_alloc | apply Kd.R_drewN | apply Kd.R_drew)); exact HO_40.out) hb); have n1_ := Aside0.mk (Kd.C_below (by repeat (first | (with_reducible exact HR386.out) | (with_reducible refine Kd.C_alloc ?_ _) | (with_reducible refine Kd.C_drewN ?_ _) | (with_reducible refine Kd.C_drew ?_) | exact HR386.out)) hb); have n2_ := Aside0.mk (below_step (by repeat (first | (with_reducible first | exact HB.out | apply below_alloc | apply pw_below_drewN | apply below_drew1) | exact HB.out)) hb); clear HO_40; clear HR386; clear HB; have HO_40 := n0_; have HR386 := n1_; have HB := n2_; clear n0_ n1_ n2_; (try clear hb); (try clear hb2); (try clear hk); (try clear hi)) | (go_at_call 8; (with_reducible refine (impl_NumberOfState.calls kj194 t376 t392 false _ A217.out).mono ?_); rintro e w231 ⟨rfl, hb⟩; have n0_ := Aside0.mk (Kd.R_below (by (with_reducible repeat (first | apply Kd.R_alloc | apply Kd.R_drewN | apply Kd.R_drew)); exact HO_40.out) hb); have n1_ := Aside0.mk (Kd.C_below (by repeat (first | (with_reducible exact HR386.out) | (with_reducible refine Kd.C_alloc ?_ _) | (with_reducible refine Kd.C_drewN ?_ _) | (with_reducible refine Kd.C_drew ?_) | exact HR386.out)) hb); have n2_ := Aside0.mk (below_step (by repeat (first | (with_reducible first | exact HB.out | apply below_alloc | apply pw_below_drewN | apply below_drew1) | exact HB.out)) hb); clear HO_40; clear HR386; clear HB; have HO_40 := n0_; have HR386 := n1_; have HB := n2_; clear n0_ n1_ n2_; (try clear hb); (try clear hb2); (try clear hk); (try clear hi))); try go_wp2_with (first | (go_at_call 23; (with_reducible refine (impl_PlayMoves.calls kj194 t356 _ _ y383 t387 true _ ?side1 ?side2 A208.out).mono ?_); (case side1 => repeat (first | exact (by repeat (first | (with_reducible exact HR386.out) | (with_reducible refine Kd.C_alloc ?_ _) | (with_reducible refine Kd.C_drewN ?_ _) | (with_reducible refine Kd.C_drew ?_) | exact HR386.out)) | (with_reducible refine Kd.C_alloc ?_ _) | (with_reducible refine Kd.C_drewN ?_ _) | (with_reducible refine Kd.C_drew ?_))); (case side2 => exact HC386.out); rintro e w229 ⟨rfl, hb⟩; have n0_ := Aside0.mk (Kd.R_below (by (with_reducible repeat (first | apply Kd.R_alloc | apply Kd.R_drewN | apply Kd.R_drew)); exact HO_40.out) hb); have n1_ := Aside0.mk (Kd.C_below (by repeat (first | (with_reducible exact HR386.out) | (with_reducible refine Kd.C_alloc ?_ _) | (with_reducible refine Kd.C_drewN ?_ _) | (with_reducible refine Kd.C_drew ?_) | exact HR386.out)) hb); have n2_ := Aside0.mk (below_step (by repeat (first | (with_reducible first | exact HB.out | apply below_alloc | apply pw_below_drewN | apply below_drew1) | exact HB.out)) hb); clear HO_40; clear HR386; clear HB; have HO_40 := n0_; have HR386 := n1_; have HB := n2_; clear n0_ n1_ n2_; (try clear hb); (try clear hb2); (try clear hk); (try clear hi); have p389 : 0 ≤ (t364 : Int) := of_decide_eq_true (by first | (with_reducible assumption) | assumption); have q389 : t364 < (t357.length : Int) := of_decide_eq_true (by first | (with_reducible assumption) | assumption); obtain ⟨ad389, e389, hx389_0⟩ := Kd.at_int (Kd.R_reads' HO_40.out).2.2 t364 p389 q389; cases e389; replace p389 := eq_true p389; replace q389 := eq_true q389) | (go_at_call 19; (with_reducible refine (impl_MoveRing.calls t387 (rd t357 t364) t390 false _ A211.out).mono ?_); rintro e w230 ⟨rfl, hb⟩; have n0_ := Aside0.mk (Kd.R_below (by (with_reducible repeat (first | apply Kd.R_alloc | apply Kd.R_drewN | apply Kd.R_drew)); exact HO_40.out) hb); have n1_ := Aside0.mk (Kd.C_below (by repeat (first | (with_reducible exact HR386.out) | (with_reducible refine Kd.C_alloc ?_ _) | (with_reducible refine Kd.C_drewN ?_ _) | (with_reducible refine Kd.C_drew ?_) | exact HR386.out)) hb); have n2_ := Aside0.mk (below_step (by repeat (first | (with_reducible first | exact HB.out | apply below_alloc | apply pw_below_drewN | apply below_drew1) | exact HB.out)) hb); clear HO_40; clear HR386; clear HB; have HO_40 := n0_; have HR386 := n1_; have HB := n2_; clear n0_ n1_ n2_; (try clear hb); (try clear hb2); (try clear hk); (try clear hi)) | (go_at_call 8; (with_reducible refine (impl_NumberOfState.calls kj194 t376 t392 false _ A217.out).mono ?_); rintro e w231 ⟨rfl, hb⟩; have n0_ := Aside0.mk (Kd.R_below (by (with_reducible repeat (first | apply Kd.R_alloc | apply Kd.R_drewN | apply Kd.R_drew)); exact HO_40.out) hb); have n1_ := Aside0.mk (Kd.C_below (by repeat (first | (with_reducible exact HR386.out) | (with_reducible refine Kd.C_alloc ?_ _) | (with_reducible refine Kd.C_drewN ?_ _) | (with_reducible refine Kd.C_drew ?_) | exact HR386.out)) hb); have n2_ := Aside0.mk (below_step (by repeat (first | (with_reducible first | exact HB.out | apply below_alloc | apply pw_below_drewN | apply below_drew1) | exact HB.out)) hb); clear HO_40; clear HR386; clear HB; have HO_40 := n0_; have HR386 := n1_; have HB := n2_; clear n0_ n1_ n2_; (try clear hb); (try clear hb2); (try clear hk); (try clear hi))))
   go_ret
   exact ⟨by first | rfl | (simp [errW_none, errW_some] <;> rfl) | (simp [*, errW_none, errW_some] <;> rfl), by repeat (first | (with_reducible first | exact HB.out | apply below_alloc | apply pw_below_drewN | apply below_drew1) | exact HB.out)⟩
 ·replace c216 := Bool.eq_false_iff.mpr c216
  subst c216
  rw [if_neg (show ¬ (false = true) by decide)] at H
  have H1 := H
  clear H
  have H := H1
  clear H1
  obtain rfl := Option.some.inj H
  have q232 : (t364 : Int) ≤ ((t357.length : Int) : Int) := of_decide_eq_true (by first | (with_reducible assumption) | assumption)
  obtain ⟨i0232, hi0232, _, hsz232, _⟩ := info_parts info3
  have hroom232 : t357.length ≤ co175 := (Kd.R_reads' HO_40.out).2.1
  have hC232 : Kd.C (Kd.int .i64) _ Ao175 t357.length t357 := (Kd.R_reads' HO_40.out).2.2
  have hcut232 := cut_to (P := Tryd.prog) 25 3 .i64 Tryd.underlying25 hi0232 Ao175 t357.length co175 t364 (of_decide_eq_true (by first | (with_reducible assumption) | assumption)) q232 hroom232
  have hr232 := Kd.C_take (m := (t364 : Int).toNat) hC232 (by omega)
  have hy232 : y383.length = (t364 : Int).toNat := (by rw [Ny383.out, List.length_take]; omega)
  rw [← Ny383.out] at hr232
  rw [← hy232] at hcut232
  have HR386 := Aside0.mk hr232
  have HC386 := Aside0.mk (show y383.length ≤ co175 from by omega)
  clear hr232 hC232 hroom232 hi0232 hsz232
  have KY232 := Aside0.mk hy232
  clear hy232
  have KL232 := Aside0.mk (show (t364 : Int).toNat ≤ t357.length from by omega)
  replace q232 := eq_true q232
  go_wp2_with (first | (go_at_call 23; (with_reducible refine (impl_PlayMoves.calls kj194 t356 _ _ y383 t387 true _ ?side1 ?side2 A208.out).mono ?_); (case side1 => repeat (first | exact (by repeat (first | (with_reducible exact HR386.out) | (with_reducible refine Kd.C_alloc ?_ _) | (with_reducible refine Kd.C_drewN ?_ _) | (with_reducible refine Kd.C_drew ?_) | exact HR386.out)) | (with_reducible refine Kd.C_alloc ?_ _) | (with_reducible refine Kd.C_drewN ?_ _) | (with_reducible refine Kd.C_drew ?_))); (case side2 => exact HC386.out); rintro e w233 ⟨rfl, hb⟩; have n0_ := Aside0.mk (Kd.R_below (by (with_reducible repeat (first | apply Kd.R_alloc | apply Kd.R_drewN | apply Kd.R_drew)); exact HO_40.out) hb); have n1_ := Aside0.mk (Kd.C_below (by repeat (first | (with_reducible exact HR386.out) | (with_reducible refine Kd.C_alloc ?_ _) | (with_reducible refine Kd.C_drewN ?_ _) | (with_reducible refine Kd.C_drew ?_) | exact HR386.out)) hb); have n2_ := Aside0.mk (below_step (by repeat (first | (with_reducible first | exact HB.out | apply below_alloc | apply pw_below_drewN | apply below_drew1) | exact HB.out)) hb); clear HO_40; clear HR386; clear HB; have HO_40 := n0_; have HR386 := n1_; have HB := n2_; clear n0_ n1_ n2_; (try clear hb); (try clear hb2); (try clear hk); (try clear hi); have p389 : 0 ≤ (t364 : Int) := of_decide_eq_true (by first | (with_reducible assumption) | assumption); have q389 : t364 < (t357.length : Int) := of_decide_eq_true (by first | (with_reducible assumption) | assumption); obtain ⟨ad389, e389, hx389_0⟩ := Kd.at_int (Kd.R_reads' HO_40.out).2.2 t364 p389 q389; cases e389; replace p389 := eq_true p389; replace q389 := eq_true q389) | (go_at_call 19; (with_reducible refine (impl_MoveRing.calls t387 (rd t357 t364) t390 false _ A211.out).mono ?_); rintro e w234 ⟨rfl, hb⟩; have n0_ := Aside0.mk (Kd.R_below (by (with_reducible repeat (first | apply Kd.R_alloc | apply Kd.R_drewN | apply Kd.R_drew)); exact HO_40.out) hb); have n1_ := Aside0.mk (Kd.C_below (by repeat (first | (with_reducible exact HR386.out) | (with_reducible refine Kd.C_alloc ?_ _) | (with_reducible refine Kd.C_drewN ?_ _) | (with_reducible refine Kd.C_drew ?_) | exact HR386.out)) hb); have n2_ := Aside0.mk (below_step (by repeat (first | (with_reducible first | exact HB.out | apply below_alloc | apply pw_below_drewN | apply below_drew1) | exact HB.out)) hb); clear HO_40; clear HR386; clear HB; have HO_40 := n0_; have HR386 := n1_; have HB := n2_; clear n0_ n1_ n2_; (try clear hb); (try clear hb2); (try clear hk); (try clear hi)))
  repeat (go_quiet (first | (go_at_call 23; (with_reducible refine (impl_PlayMoves.calls kj194 t356 _ _ y383 t387 true _ ?side1 ?side2 A208.out).mono ?_); (case side1 => repeat (first | exact (by repeat (first | (with_reducible exact HR386.out) | (with_reducible refine Kd.C_alloc ?_ _) | (with_reducible refine Kd.C_drewN ?_ _) | (with_reducible refine Kd.C_drew ?_) | exact HR386.out)) | (with_reducible refine Kd.C_alloc ?_ _) | (with_reducible refine Kd.C_drewN ?_ _) | (with_reducible refine Kd.C_drew ?_))); (case side2 => exact HC386.out); rintro e w233 ⟨rfl, hb⟩; have n0_ := Aside0.mk (Kd.R_below (by (with_reducible repeat (first | apply Kd.R_alloc | apply Kd.R_drewN | apply Kd.R_drew)); exact HO_40.out) hb); have n1_ := Aside0.mk (Kd.C_below (by repeat (first | (with_reducible exact HR386.out) | (with_reducible refine Kd.C_alloc ?_ _) | (with_reducible refine Kd.C_drewN ?_ _) | (with_reducible refine Kd.C_drew ?_) | exact HR386.out)) hb); have n2_ := Aside0.mk (below_step (by repeat (first | (with_reducible first | exact HB.out | apply below_alloc | apply pw_below_drewN | apply below_drew1) | exact HB.out)) hb); clear HO_40; clear HR386; clear HB; have HO_40 := n0_; have HR386 := n1_; have HB := n2_; clear n0_ n1_ n2_; (try clear hb); (try clear hb2); (try clear hk); (try clear hi); have p389 : 0 ≤ (t364 : Int) := of_decide_eq_true (by first | (with_reducible assumption) | assumption); have q389 : t364 < (t357.length : Int) := of_decide_eq_true (by first | (with_reducible assumption) | assumption); obtain ⟨ad389, e389, hx389_0⟩ := Kd.at_int (Kd.R_reads' HO_40.out).2.2 t364 p389 q389; cases e389; replace p389 := eq_true p389; replace q389 := eq_true q389) | (go_at_call 19; (with_reducible refine (impl_MoveRing.calls t387 (rd t357 t364) t390 false _ A211.out).mono ?_); rintro e w234 ⟨rfl, hb⟩; have n0_ := Aside0.mk (Kd.R_below (by (with_reducible repeat (first | apply Kd.R_alloc | apply Kd.R_drewN | apply Kd.R_drew)); exact HO_40.out) hb); have n1_ := Aside0.mk (Kd.C_below (by repeat (first | (with_reducible exact HR386.out) | (with_reducible refine Kd.C_alloc ?_ _) | (with_reducible refine Kd.C_drewN ?_ _) | (with_reducible refine Kd.C_drew ?_) | exact HR386.out)) hb); have n2_ := Aside0.mk (below_step (by repeat (first | (with_reducible first | exact HB.out | apply below_alloc | apply pw_below_drewN | apply below_drew1) | exact HB.out)) hb); clear HO_40; clear HR386; clear HB; have HO_40 := n0_; have HR386 := n1_; have HB := n2_; clear n0_ n1_ n2_; (try clear hb); (try clear hb2); (try clear hk); (try clear hi))); try go_wp2_with (first | (go_at_call 23; (with_reducible refine (impl_PlayMoves.calls kj194 t356 _ _ y383 t387 true _ ?side1 ?side2 A208.out).mono ?_); (case side1 => repeat (first | exact (by repeat (first | (with_reducible exact HR386.out) | (with_reducible refine Kd.C_alloc ?_ _) | (with_reducible refine Kd.C_drewN ?_ _) | (with_reducible refine Kd.C_drew ?_) | exact HR386.out)) | (with_reducible refine Kd.C_alloc ?_ _) | (with_reducible refine Kd.C_drewN ?_ _) | (with_reducible refine Kd.C_drew ?_))); (case side2 => exact HC386.out); rintro e w233 ⟨rfl, hb⟩; have n0_ := Aside0.mk (Kd.R_below (by (with_reducible repeat (first | apply Kd.R_alloc | apply Kd.R_drewN | apply Kd.R_drew)); exact HO_40.out) hb); have n1_ := Aside0.mk (Kd.C_below (by repeat (first | (with_reducible exact HR386.out) | (with_reducible refine Kd.C_alloc ?_ _) | (with_reducible refine Kd.C_drewN ?_ _) | (with_reducible refine Kd.C_drew ?_) | exact HR386.out)) hb); have n2_ := Aside0.mk (below_step (by repeat (first | (with_reducible first | exact HB.out | apply below_alloc | apply pw_below_drewN | apply below_drew1) | exact HB.out)) hb); clear HO_40; clear HR386; clear HB; have HO_40 := n0_; have HR386 := n1_; have HB := n2_; clear n0_ n1_ n2_; (try clear hb); (try clear hb2); (try clear hk); (try clear hi); have p389 : 0 ≤ (t364 : Int) := of_decide_eq_true (by first | (with_reducible assumption) | assumption); have q389 : t364 < (t357.length : Int) := of_decide_eq_true (by first | (with_reducible assumption) | assumption); obtain ⟨ad389, e389, hx389_0⟩ := Kd.at_int (Kd.R_reads' HO_40.out).2.2 t364 p389 q389; cases e389; replace p389 := eq_true p389; replace q389 := eq_true q389) | (go_at_call 19; (with_reducible refine (impl_MoveRing.calls t387 (rd t357 t364) t390 false _ A211.out).mono ?_); rintro e w234 ⟨rfl, hb⟩; have n0_ := Aside0.mk (Kd.R_below (by (with_reducible repeat (first | apply Kd.R_alloc | apply Kd.R_drewN | apply Kd.R_drew)); exact HO_40.out) hb); have n1_ := Aside0.mk (Kd.C_below (by repeat (first | (with_reducible exact HR386.out) | (with_reducible refine Kd.C_alloc ?_ _) | (with_reducible refine Kd.C_drewN ?_ _) | (with_reducible refine Kd.C_drew ?_) | exact HR386.out)) hb); have n2_ := Aside0.mk (below_step (by repeat (first | (with_reducible first | exact HB.out | apply below_alloc | apply pw_below_drewN | apply below_drew1) | exact HB.out)) hb); clear HO_40; clear HR386; clear HB; have HO_40 := n0_; have HR386 := n1_; have HB := n2_; clear n0_ n1_ n2_; (try clear hb); (try clear hb2); (try clear hk); (try clear hi))))
  go_ret
  exact ⟨by first | rfl | (simp [errW_none, errW_some] <;> rfl) | (simp [*, errW_none, errW_some] <;> rfl), by repeat (first | (with_reducible first | exact HB.out | apply below_alloc | apply pw_below_drewN | apply below_drew1) | exact HB.out)⟩

theorem laws_FnRingsMove.d19 : laws_FnRingsMove.c16.2.1 := laws_FnRingsMove.c19.2 ⟨laws_FnRingsMove.c20⟩

theorem laws_FnRingsMove.d17 : laws_FnRingsMove.c16.1 := laws_FnRingsMove.c17.2 ⟨laws_FnRingsMove.c18⟩

theorem laws_FnRingsMove.d16 : laws_FnRingsMove.c14.2.1 := laws_FnRingsMove.c16.2.2 ⟨laws_FnRingsMove.d17⟩ ⟨laws_FnRingsMove.d19⟩

theorem laws_FnRingsMove.d14 : laws_FnRingsMove.c5.2.1 := laws_FnRingsMove.c14.2.2 ⟨laws_FnRingsMove.c15⟩ ⟨laws_FnRingsMove.d16⟩

theorem laws_FnRingsMove.d12 : laws_FnRingsMove.c9.2.1 := laws_FnRingsMove.c12.2 ⟨laws_FnRingsMove.c13⟩

theorem laws_FnRingsMove.d10 : laws_FnRingsMove.c9.1 := laws_FnRingsMove.c10.2 ⟨laws_FnRingsMove.c11⟩

theorem laws_FnRingsMove.d9 : laws_FnRingsMove.c8.1 := laws_FnRingsMove.c9.2.2 ⟨laws_FnRingsMove.d10⟩ ⟨laws_FnRingsMove.d12⟩

theorem laws_FnRingsMove.d8 : laws_FnRingsMove.c6.2.1 := laws_FnRingsMove.c8.2 ⟨laws_FnRingsMove.d9⟩

theorem laws_FnRingsMove.d6 : laws_FnRingsMove.c5.1 := laws_FnRingsMove.c6.2.2 ⟨laws_FnRingsMove.c7⟩ ⟨laws_FnRingsMove.d8⟩

theorem laws_FnRingsMove.d5 : laws_FnRingsMove.c0.2.1 := laws_FnRingsMove.c5.2.2 ⟨laws_FnRingsMove.d6⟩ ⟨laws_FnRingsMove.d14⟩

theorem laws_FnRingsMove.d3 : laws_FnRingsMove.c2.1 := laws_FnRingsMove.c3.2 ⟨laws_FnRingsMove.c4⟩

theorem laws_FnRingsMove.d2 : laws_FnRingsMove.c1.1 := laws_FnRingsMove.c2.2 ⟨laws_FnRingsMove.d3⟩

theorem laws_FnRingsMove.d1 : laws_FnRingsMove.c0.1 := laws_FnRingsMove.c1.2 ⟨laws_FnRingsMove.d2⟩

theorem laws_FnRingsMove.calls (k : Nat) (A0 : Option Addr) (c0 : Nat) (l0 : List Int) (A1 : Option Addr) (c1 : Nat) (l1 : List Int) (r : Bool) (w : World) (hr0 : Kd.C (Kd.int .u8) w A0 l0.length l0) (hc0 : l0.length ≤ c0) (hr1 : Kd.C (Kd.int .u8) w A1 l1.length l1) (hc1 : l1.length ≤ c1) (h : laws_FnRingsMove.f k l0 l1 = some r) :
  Calls Tryd.prog 3 #[.slice A0 l0.length c0, .slice A1 l1.length c1] w fun e w' => e = .returned (.bool r) ∧ Below w.heap.size w w' := laws_FnRingsMove.c0.2.2 ⟨laws_FnRingsMove.d1⟩ ⟨laws_FnRingsMove.d5⟩ k A0 c0 l0 A1 c1 l1 r w hr0 hc0 hr1 hc1 h
theorem laws_FnRingsMove.walk (P : laws_FnRingsMove.Pure) (a0 : Option Addr) (len0 cap0 : Nat) (z0 : List Int) (a1 : Option Addr) (len1 cap1 : Nat) (z1 : List Int) (w : World) (w0 : (a0 = none ∧ len0 = 0 ∧ cap0 = 0 ∧ z0 = []) ∨ ∃ x, a0 = some x ∧ len0 ≤ cap0 ∧ cap0 ≤ maxLen ∧ z0.length = cap0 ∧ (∀ i, i < z0.length → w.cell? (x.add i) = some (.int .u8 (z0.getD i 0))) ∧ ∀ n ∈ z0, (Lit.int .u8 n).wf = true) (y0 : len0 * 1 ≤ 140737488351232) (w1 : (a1 = none ∧ len1 = 0 ∧ cap1 = 0 ∧ z1 = []) ∨ ∃ x, a1 = some x ∧ len1 ≤ cap1 ∧ cap1 ≤ maxLen ∧ z1.length = cap1 ∧ (∀ i, i < z1.length → w.cell? (x.add i) = some (.int .u8 (z1.getD i 0))) ∧ ∀ n ∈ z1, (Lit.int .u8 n).wf = true) (y1 : len1 * 1 ≤ 140737488351232) :
  Calls Tryd.prog 3 #[.slice a0 len0 cap0, .slice a1 len1 cap1] w fun e w' => e = .returned (.bool true) ∧ Below w.heap.size w w' := by
 obtain ⟨l0, rfl, hr0, hm0, hw0, hc0⟩ := ReadsInt.ofRowC w0
 obtain ⟨l1, rfl, hr1, hm1, hw1, hc1⟩ := ReadsInt.ofRowC w1
 obtain ⟨k, h⟩ := P l0 l1 hm0 y0 hw0 hm1 y1 hw1
 refine (laws_FnRingsMove.calls k _ _ l0 _ _ l1 true w (Kd.C_of_reads (d := (0 : Int)) (h1 := fun _ => rfl) hr0) hc0 (Kd.C_of_reads (d := (0 : Int)) (h1 := fun _ => rfl) hr1) hc1 h).mono ?_
 rintro e w' ⟨rfl, hd⟩
 exact ⟨rfl, hd⟩

end Go.Proofs.YtbklkcfmlmneaaaDoor.A
