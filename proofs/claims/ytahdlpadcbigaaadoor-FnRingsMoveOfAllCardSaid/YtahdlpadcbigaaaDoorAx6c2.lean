-- written by a program of this session's over the kit's print (xp.py)
import Derived.Test.YtahdlpadcbigaaaDoorAx0
import Derived.Test.YtahdlpadcbigaaaDoorAx1
import Derived.Test.YtahdlpadcbigaaaDoorAx2
import Derived.Test.YtahdlpadcbigaaaDoorAx3
import Derived.Test.YtahdlpadcbigaaaDoorAx4
import Derived.Test.YtahdlpadcbigaaaDoorAx5
import Derived.Test.YtahdlpadcbigaaaDoorAx6
import Derived.Test.YtahdlpadcbigaaaDoorAx6c1
-- halved
namespace Go.Proofs.YtahdlpadcbigaaaDoor.A
-- slim
set_option maxHeartbeats 8000000
set_option maxRecDepth 100000
open Go.RowKit Go.Proofs.YtahdlpadcbigaaaDoorW.PrintWords Go.Proofs.YtahdlpadcbigaaaDoorW.PrintLast Go.Proofs.YtahdlpadcbigaaaDoorW.PrintMore
attribute [local go_sem] max2_int min2_int max_two min_two max_three min_three max_four min_four   -- for this text's walks alone
set_option linter.unusedVariables false
set_option linter.unusedSimpArgs false

theorem laws_FnRingsMoveOfAll.c14 : laws_FnRingsMoveOfAll.c13.1 := by
 intro k a0 a1 A2 c2 l2 a3 a4 a5 a6 r w HR2 HC2 _ _ _ _ kj7 HJ7 t201 t205 t206 A14 t209 t210 A15 t211 t212 A16 t213 t214 A17 t215 t216 A18 t217 t218 t219 A19 t222 t223 t224 A20 w22 w23 v207 w24 _ w25 nd w26 w27 v225 _ _ _ kj20 HJ20 _ _ J_ K_ hK_ A13 t232 t233 A98 w100 _ f_ wc _ kj98 HJ98 Ao134 co134 HO204 HO208 _ HO_15 _ _ _ u36 u37 u38 u39 u40 u41 u42 u43 u279 u280 u281 u282 u283 u284 u285 u286 u287 u288 u289 u290 u291 u292 u293 u294 u295 u296 u297 u298 u299 u300 u301 u302 u303 u304 u305 u306 u307 u308 u309 u310 u311 u312 u313 u314 u315 u316 u317 u318 u319 u320 u321 u322 u323 u324 u325 u326 u327 u328 u329 u330 u331 u332 u333 u334 u335 u336 u337 _ _ x278_4 HO_276 HB k4 _ HK4 c135b0 H' Ao158 co158 HO221 HO226 _ _ hJ_ _ HO_27 _ _ gk wr u14 u45 u46 u47 u340 u341 u342 u343 u344 u345 u346 u347 u348 u349 u350 u351 u352 u353 u354 u355 u356 u357 hrel _ _ _ _
 clear H'
 try clear c1
 try clear p1
 try clear q1
 try clear hx1
 try clear c2
 try clear p2
 try clear q2
 try clear hx2
 try clear qi2
 try clear c3
 try clear c4
 try clear c5
 try clear c6
 try clear p6
 try clear c9
 try clear c9b0
 try clear c9b1
 try clear c10
 try clear c10b0
 try clear c10b1
 try clear c11
 try clear c11b0
 try clear c11b1
 try clear c12
 try clear c13
 try clear c14
 try clear c15
 try clear p15
 try clear q15
 try clear hx15
 try clear p23
 try clear q23
 try clear hx23
 try clear qi23
 try clear c28
 try clear c28b0
 try clear c28b1
 try clear c28b2
 try clear c30
 try clear c31
 try clear c31b0
 try clear c31b1
 try clear c31b2
 try clear c34
 try clear c34b0
 try clear c34b1
 try clear c35
 try clear c35b0
 try clear c35b1
 try clear c35b2
 try clear c38
 try clear c38b0
 try clear c38b1
 try clear c39
 try clear c39b0
 try clear c39b1
 try clear c39b2
 try clear c43
 try clear c44
 try clear c44b0
 try clear c44b1
 try clear c46
 try clear c46b0
 try clear c46b1
 try clear c46b2
 try clear c54
 try clear c54b0
 try clear c54b1
 try clear c54b2
 try clear c61
 try clear c61b0
 try clear c61b1
 try clear c61b2
 try clear p64
 try clear c68
 try clear c68b0
 try clear c68b1
 try clear c68b2
 try clear c95
 try clear c97
 try clear c101
 try clear c101b0
 try clear c101b1
 try clear c103
 try clear c103b0
 try clear c103b1
 try clear c105
 try clear c105b0
 try clear c105b1
 try clear c106
 try clear c106b0
 try clear c106b1
 try clear c107
 try clear c107b0
 try clear c110
 try clear c110b0
 try clear c112
 try clear c113
 try clear c113b0
 try clear c113b1
 try clear c114
 try clear c114b0
 try clear c114b1
 try clear c115
 try clear c115b0
 try clear c115b1
 try clear c115b2
 try clear c117
 try clear c117b0
 try clear c117b1
 try clear c122
 try clear c122b0
 try clear c123
 try clear c123b0
 try clear c123b1
 try clear c123b2
 try clear c125
 try clear c125b0
 try clear c125b1
 try clear c133
 try clear c135
 try clear c135b0
 try clear c136
 try clear c136b0
 try clear c137
 try clear c137b0
 try clear c145
 try clear c146
 try clear c147
 try clear c147b0
 try clear c147b1
 try clear c148
 try clear c150
 try clear c151
 try clear c151b0
 try clear c152
 try clear c152b0
 try clear c153
 try clear c153b0
 try clear p154
 try clear q154
 try clear hx154
 try clear c155
 try clear c155b0
 try clear p156
 try clear q156
 try clear hx156
 try clear c157
 try clear c157b0
 try clear c157b1
 try clear c157b2
 try clear hx234_0
 try clear hx235_0
 try clear p154
 try clear p156
 try clear p2
 try clear p23
 try clear p234
 try clear p235
 try clear p6
 try clear p64
 try clear q154
 try clear q156
 try clear q2
 try clear q23
 try clear q234
 try clear q235
 obtain ⟨x340_5, rfl, HA, HK5, HO_338, HB⟩ := hrel
 cases gk with
 | zero => exact absurd HA.out (by simp [laws_FnRingsMoveOfAll.l2])
 | succ k5 =>
  have H := HA.out
  clear HA
  simp only [laws_FnRingsMoveOfAll.l2] at H
  by_cases c159 : x340_5 < (t217.length : Int)
  ·rw [if_pos c159] at H
   have c159b0 : decide (x340_5 < (t217.length : Int)) = true := decide_eq_true c159
   clear c159
   by_cases c160 : 0 ≤ x340_5
   ·rw [if_pos c160] at H
    have c160b0 : decide (0 ≤ x340_5) = true := decide_eq_true c160
    clear c160
    by_cases c161 : x340_5 < (t217.length : Int)
    ·rw [if_pos c161] at H
     have c161b0 : decide (x340_5 < (t217.length : Int)) = true := decide_eq_true c161
     clear c161
     replace H := Option.bind_eq_some_iff.mp H
     obtain ⟨⟨t244, t245⟩, A1620, H⟩ := H
     try dsimp +instances only at H
     replace H := H
     have A162 := Aside0.mk A1620
     clear A1620
     by_cases c163 : t245 = true
     ·subst c163
      rw [if_pos rfl] at H
      have H1 := H
      clear H
      have H := H1
      clear H1
      by_cases c164 : t244 = t218
      ·rw [if_pos c164] at H
       have c164b0 : (t244 == t218) = true := beq_iff_eq.mpr c164
       have c164b1 : (t244 != t218) = false := bne_eq_false_iff_eq.mpr c164
       clear c164
       have H' := Aside0.mk H
       clear H
       have p243 : 0 ≤ (x340_5 : Int) := of_decide_eq_true (by first | (with_reducible assumption) | assumption)
       have q243 : x340_5 < (t217.length : Int) := of_decide_eq_true (by first | (with_reducible assumption) | assumption)
       obtain ⟨ad243, e243, hx243_0⟩ := Kd.at_string (Kd.R_reads' HO_338.out).2.2 x340_5 p243 q243
       cases e243
       replace p243 := eq_true p243
       replace q243 := eq_true q243
       go_wp2_with (first | (go_at_call 19; (with_reducible refine (impl_FewestMoves.calls k5 a0 (rdOf ByteArray.empty t217 x340_5) t244 true _ A162.out).mono ?_); rintro e w165 ⟨rfl, hb⟩; have n0_ := Aside0.mk (Kd.R_below (by (with_reducible repeat (first | apply Kd.R_alloc | apply Kd.R_drewN | apply Kd.R_drew)); exact HO_338.out) hb); have n1_ := Aside0.mk (below_step (by repeat (first | (with_reducible first | exact HB.out | apply below_alloc | apply pw_below_drewN | apply below_drew1) | exact HB.out)) hb); clear HO_338; clear HB; have HO_338 := n0_; have HB := n1_; clear n0_ n1_; (try clear hb); (try clear hb2); (try clear hk); (try clear hi)))
       repeat (go_quiet (first | (go_at_call 19; (with_reducible refine (impl_FewestMoves.calls k5 a0 (rdOf ByteArray.empty t217 x340_5) t244 true _ A162.out).mono ?_); rintro e w165 ⟨rfl, hb⟩; have n0_ := Aside0.mk (Kd.R_below (by (with_reducible repeat (first | apply Kd.R_alloc | apply Kd.R_drewN | apply Kd.R_drew)); exact HO_338.out) hb); have n1_ := Aside0.mk (below_step (by repeat (first | (with_reducible first | exact HB.out | apply below_alloc | apply pw_below_drewN | apply below_drew1) | exact HB.out)) hb); clear HO_338; clear HB; have HO_338 := n0_; have HB := n1_; clear n0_ n1_; (try clear hb); (try clear hb2); (try clear hk); (try clear hi))); try go_wp2_with (first | (go_at_call 19; (with_reducible refine (impl_FewestMoves.calls k5 a0 (rdOf ByteArray.empty t217 x340_5) t244 true _ A162.out).mono ?_); rintro e w165 ⟨rfl, hb⟩; have n0_ := Aside0.mk (Kd.R_below (by (with_reducible repeat (first | apply Kd.R_alloc | apply Kd.R_drewN | apply Kd.R_drew)); exact HO_338.out) hb); have n1_ := Aside0.mk (below_step (by repeat (first | (with_reducible first | exact HB.out | apply below_alloc | apply pw_below_drewN | apply below_drew1) | exact HB.out)) hb); clear HO_338; clear HB; have HO_338 := n0_; have HB := n1_; clear n0_ n1_; (try clear hb); (try clear hb2); (try clear hk); (try clear hi))))
       go_roundg k5
       case measure => have := HJ7.out; have := HJ20.out; have := HJ98.out; have := HK4.out; have := HK5.out; omega
       case rel => exact ⟨(wrap64 (x340_5 + 1)), (by first | rfl | ((conv => lhs; whnf); first | rfl | (simp; done) | (simp [*]; done))), H', ⟨by have := HJ7.out; have := HJ20.out; have := HJ98.out; have := HK4.out; have := HK5.out; omega⟩, ⟨by (with_reducible repeat (first | apply Kd.R_alloc | apply Kd.R_drewN | apply Kd.R_drew)); exact HO_338.out⟩, ⟨by repeat (first | (with_reducible first | exact HB.out | apply below_alloc | apply pw_below_drewN | apply below_drew1) | exact HB.out)⟩⟩
      ·rw [if_neg c164] at H
       have c164b0 : (t244 == t218) = false := beq_eq_false_iff_ne.mpr c164
       have c164b1 : (t244 != t218) = true := bne_iff_ne.mpr c164
       obtain rfl := Option.some.inj H
       have p243 : 0 ≤ (x340_5 : Int) := of_decide_eq_true (by first | (with_reducible assumption) | assumption)
       have q243 : x340_5 < (t217.length : Int) := of_decide_eq_true (by first | (with_reducible assumption) | assumption)
       obtain ⟨ad243, e243, hx243_0⟩ := Kd.at_string (Kd.R_reads' HO_338.out).2.2 x340_5 p243 q243
       cases e243
       replace p243 := eq_true p243
       replace q243 := eq_true q243
       go_wp2_with (first | (go_at_call 19; (with_reducible refine (impl_FewestMoves.calls k5 a0 (rdOf ByteArray.empty t217 x340_5) t244 true _ A162.out).mono ?_); rintro e w166 ⟨rfl, hb⟩; have n0_ := Aside0.mk (Kd.R_below (by (with_reducible repeat (first | apply Kd.R_alloc | apply Kd.R_drewN | apply Kd.R_drew)); exact HO_338.out) hb); have n1_ := Aside0.mk (below_step (by repeat (first | (with_reducible first | exact HB.out | apply below_alloc | apply pw_below_drewN | apply below_drew1) | exact HB.out)) hb); clear HO_338; clear HB; have HO_338 := n0_; have HB := n1_; clear n0_ n1_; (try clear hb); (try clear hb2); (try clear hk); (try clear hi)))
       repeat (go_quiet (first | (go_at_call 19; (with_reducible refine (impl_FewestMoves.calls k5 a0 (rdOf ByteArray.empty t217 x340_5) t244 true _ A162.out).mono ?_); rintro e w166 ⟨rfl, hb⟩; have n0_ := Aside0.mk (Kd.R_below (by (with_reducible repeat (first | apply Kd.R_alloc | apply Kd.R_drewN | apply Kd.R_drew)); exact HO_338.out) hb); have n1_ := Aside0.mk (below_step (by repeat (first | (with_reducible first | exact HB.out | apply below_alloc | apply pw_below_drewN | apply below_drew1) | exact HB.out)) hb); clear HO_338; clear HB; have HO_338 := n0_; have HB := n1_; clear n0_ n1_; (try clear hb); (try clear hb2); (try clear hk); (try clear hi))); try go_wp2_with (first | (go_at_call 19; (with_reducible refine (impl_FewestMoves.calls k5 a0 (rdOf ByteArray.empty t217 x340_5) t244 true _ A162.out).mono ?_); rintro e w166 ⟨rfl, hb⟩; have n0_ := Aside0.mk (Kd.R_below (by (with_reducible repeat (first | apply Kd.R_alloc | apply Kd.R_drewN | apply Kd.R_drew)); exact HO_338.out) hb); have n1_ := Aside0.mk (below_step (by repeat (first | (with_reducible first | exact HB.out | apply below_alloc | apply pw_below_drewN | apply below_drew1) | exact HB.out)) hb); clear HO_338; clear HB; have HO_338 := n0_; have HB := n1_; clear n0_ n1_; (try clear hb); (try clear hb2); (try clear hk); (try clear hi))))
       go_ret
       exact ⟨by first | rfl | (simp [errW_none, errW_some] <;> rfl) | (simp [*, errW_none, errW_some] <;> rfl), by repeat (first | (with_reducible first | exact HB.out | apply below_alloc | apply pw_below_drewN | apply below_drew1) | exact HB.out)⟩
     ·replace c163 := Bool.eq_false_iff.mpr c163
      subst c163
      rw [if_neg (show ¬ (false = true) by decide)] at H
      have H1 := H
      clear H
      have H := H1
      clear H1
      obtain rfl := Option.some.inj H
      have p243 : 0 ≤ (x340_5 : Int) := of_decide_eq_true (by first | (with_reducible assumption) | assumption)
      have q243 : x340_5 < (t217.length : Int) := of_decide_eq_true (by first | (with_reducible assumption) | assumption)
      obtain ⟨ad243, e243, hx243_0⟩ := Kd.at_string (Kd.R_reads' HO_338.out).2.2 x340_5 p243 q243
      cases e243
      replace p243 := eq_true p243
      replace q243 := eq_true q243
      go_wp2_with (first | (go_at_call 19; (with_reducible refine (impl_FewestMoves.calls k5 a0 (rdOf ByteArray.empty t217 x340_5) t244 false _ A162.out).mono ?_); rintro e w167 ⟨rfl, hb⟩; have n0_ := Aside0.mk (Kd.R_below (by (with_reducible repeat (first | apply Kd.R_alloc | apply Kd.R_drewN | apply Kd.R_drew)); exact HO_338.out) hb); have n1_ := Aside0.mk (below_step (by repeat (first | (with_reducible first | exact HB.out | apply below_alloc | apply pw_below_drewN | apply below_drew1) | exact HB.out)) hb); clear HO_338; clear HB; have HO_338 := n0_; have HB := n1_; clear n0_ n1_; (try clear hb); (try clear hb2); (try clear hk); (try clear hi)))
      repeat (go_quiet (first | (go_at_call 19; (with_reducible refine (impl_FewestMoves.calls k5 a0 (rdOf ByteArray.empty t217 x340_5) t244 false _ A162.out).mono ?_); rintro e w167 ⟨rfl, hb⟩; have n0_ := Aside0.mk (Kd.R_below (by (with_reducible repeat (first | apply Kd.R_alloc | apply Kd.R_drewN | apply Kd.R_drew)); exact HO_338.out) hb); have n1_ := Aside0.mk (below_step (by repeat (first | (with_reducible first | exact HB.out | apply below_alloc | apply pw_below_drewN | apply below_drew1) | exact HB.out)) hb); clear HO_338; clear HB; have HO_338 := n0_; have HB := n1_; clear n0_ n1_; (try clear hb); (try clear hb2); (try clear hk); (try clear hi))); try go_wp2_with (first | (go_at_call 19; (with_reducible refine (impl_FewestMoves.calls k5 a0 (rdOf ByteArray.empty t217 x340_5) t244 false _ A162.out).mono ?_); rintro e w167 ⟨rfl, hb⟩; have n0_ := Aside0.mk (Kd.R_below (by (with_reducible repeat (first | apply Kd.R_alloc | apply Kd.R_drewN | apply Kd.R_drew)); exact HO_338.out) hb); have n1_ := Aside0.mk (below_step (by repeat (first | (with_reducible first | exact HB.out | apply below_alloc | apply pw_below_drewN | apply below_drew1) | exact HB.out)) hb); clear HO_338; clear HB; have HO_338 := n0_; have HB := n1_; clear n0_ n1_; (try clear hb); (try clear hb2); (try clear hk); (try clear hi))))
      go_ret
      exact ⟨by first | rfl | (simp [errW_none, errW_some] <;> rfl) | (simp [*, errW_none, errW_some] <;> rfl), by repeat (first | (with_reducible first | exact HB.out | apply below_alloc | apply pw_below_drewN | apply below_drew1) | exact HB.out)⟩
    ·rw [if_neg c161] at H
     exact absurd H (by simp)
   ·rw [if_neg c160] at H
    exact absurd H (by simp)
  ·rw [if_neg c159] at H
   have c159b0 : decide (x340_5 < (t217.length : Int)) = false := decide_eq_false c159
   clear c159
   have H' := Aside0.mk H
   clear H
   go_wp2
   repeat (go_quiet (fail); try go_wp2)
   refine Met.intro (hJ_ _ _ ?mg_ ?rel)
   case mg_ => kernel_rfl
   case rel => exact ⟨_, H', ⟨by have := HJ7.out; have := HJ20.out; have := HJ98.out; have := HK4.out; have := HK5.out; first | omega | exact Nat.le_refl _⟩, ⟨by repeat (first | (with_reducible first | exact HB.out | apply below_alloc | apply pw_below_drewN | apply below_drew1) | exact HB.out)⟩⟩

def laws_FnRingsMoveOfAll.c15 : PSigma fun P0_ : Prop => PSigma fun P1_ : Prop => Hole P0_ → Hole P1_ → laws_FnRingsMoveOfAll.c6.2.1 := by
 refine' ⟨_, _, fun HP0_ HP1_ => _⟩
 rotate_left 2
 intro k a0 a1 A2 c2 l2 a3 a4 a5 a6 r w HR2 HC2 _ _ _ _ kj7 HJ7 t201 t202 A13 t205 t206 A14 t209 t210 A15 t211 t212 A16 t213 t214 A17 t215 t216 A18 t217 t218 t219 A19 t222 t223 t224 A20 w22 v203 w23 v207 w24 _ w25 nd w26 v220 w27 v225 HO204 HO208 HO221 HO226 _ _ _ HO_15 HO_27 HB kj20 HJ20 HC96 _ _ f_ wc hcut
 clear HC96
 try clear c1
 try clear p1
 try clear q1
 try clear hx1
 try clear c2
 try clear p2
 try clear q2
 try clear hx2
 try clear qi2
 try clear c3
 try clear c4
 try clear c5
 try clear c6
 try clear p6
 try clear c9
 try clear c9b0
 try clear c9b1
 try clear c10
 try clear c10b0
 try clear c10b1
 try clear c11
 try clear c11b0
 try clear c11b1
 try clear c12
 try clear c13
 try clear c14
 try clear c15
 try clear p15
 try clear q15
 try clear hx15
 try clear c16
 try clear p23
 try clear q23
 try clear hx23
 try clear qi23
 try clear p24
 try clear q24
 try clear hx24
 try clear c28
 try clear c28b0
 try clear c28b1
 try clear c28b2
 try clear c30
 try clear c31
 try clear c31b0
 try clear c31b1
 try clear c31b2
 try clear c34
 try clear c34b0
 try clear c34b1
 try clear c35
 try clear c35b0
 try clear c35b1
 try clear c35b2
 try clear c38
 try clear c38b0
 try clear c38b1
 try clear c39
 try clear c39b0
 try clear c39b1
 try clear c39b2
 try clear c43
 try clear c44
 try clear c44b0
 try clear c44b1
 try clear c46
 try clear c46b0
 try clear c46b1
 try clear c46b2
 try clear c54
 try clear c54b0
 try clear c54b1
 try clear c54b2
 try clear c61
 try clear c61b0
 try clear c61b1
 try clear c61b2
 try clear p64
 try clear c68
 try clear c68b0
 try clear c68b1
 try clear c68b2
 try clear c95
 try clear c97
 try clear c101
 try clear c101b0
 try clear c101b1
 try clear c103
 try clear c103b0
 try clear c103b1
 try clear c105
 try clear c105b0
 try clear c105b1
 try clear c106
 try clear c106b0
 try clear c106b1
 try clear c107
 try clear c107b0
 try clear c110
 try clear c110b0
 try clear c112
 try clear c113
 try clear c113b0
 try clear c113b1
 try clear c114
 try clear c114b0
 try clear c114b1
 try clear c115
 try clear c115b0
 try clear c115b1
 try clear c115b2
 try clear c117
 try clear c117b0
 try clear c117b1
 try clear c122
 try clear c122b0
 try clear c123
 try clear c123b0
 try clear c123b1
 try clear c123b2
 try clear c125
 try clear c125b0
 try clear c125b1
 try clear c133
 try clear c135
 try clear c135b0
 try clear c136
 try clear c136b0
 try clear c137
 try clear c137b0
 try clear c145
 try clear c146
 try clear c147
 try clear c147b0
 try clear c147b1
 try clear c148
 try clear c150
 try clear c151
 try clear c151b0
 try clear c152
 try clear c152b0
 try clear c153
 try clear c153b0
 try clear p154
 try clear q154
 try clear hx154
 try clear c155
 try clear c155b0
 try clear p156
 try clear q156
 try clear hx156
 try clear c157
 try clear c157b0
 try clear c157b1
 try clear c157b2
 try clear c159
 try clear c159b0
 try clear c160
 try clear c160b0
 try clear c161
 try clear c161b0
 try clear c163
 try clear c164
 try clear c164b0
 try clear c164b1
 try clear hx234_0
 try clear hx235_0
 try clear hx243_0
 try clear p1
 try clear p15
 try clear p154
 try clear p156
 try clear p2
 try clear p23
 try clear p234
 try clear p235
 try clear p243
 try clear p6
 try clear p64
 try clear q1
 try clear q15
 try clear q154
 try clear q156
 try clear q2
 try clear q23
 try clear q234
 try clear q235
 try clear q243
 obtain ⟨kq, HA, HJ95, HB⟩ := hcut
 cases kq with
 | zero => exact absurd HA.out (by simp [laws_FnRingsMoveOfAll.j7])
 | succ kj95 =>
  have H := HA.out
  clear HA
  simp only [laws_FnRingsMoveOfAll.j7] at H
  replace H := Option.bind_eq_some_iff.mp H
  obtain ⟨⟨t246, t247⟩, A1680, H⟩ := H
  try dsimp +instances only at H
  replace H := H
  have A168 := Aside0.mk A1680
  clear A1680
  replace H := Option.bind_eq_some_iff.mp H
  obtain ⟨⟨t248, t249⟩, A1690, H⟩ := H
  try dsimp +instances only at H
  replace H := H
  have A169 := Aside0.mk A1690
  clear A1690
  replace H := Option.bind_eq_some_iff.mp H
  obtain ⟨⟨t250, t251⟩, A1700, H⟩ := H
  try dsimp +instances only at H
  replace H := H
  have A170 := Aside0.mk A1700
  clear A1700
  replace H := Option.bind_eq_some_iff.mp H
  obtain ⟨⟨t252, t253⟩, A1710, H⟩ := H
  try dsimp +instances only at H
  replace H := H
  have A171 := Aside0.mk A1710
  clear A1710
  replace H := Option.bind_eq_some_iff.mp H
  obtain ⟨⟨t254, t255⟩, A1720, H⟩ := H
  try dsimp +instances only at H
  replace H := H
  have A172 := Aside0.mk A1720
  clear A1720
  replace H := Option.bind_eq_some_iff.mp H
  obtain ⟨⟨t256, t257⟩, A1730, H⟩ := H
  try dsimp +instances only at H
  replace H := H
  have A173 := Aside0.mk A1730
  clear A1730
  replace H := Option.bind_eq_some_iff.mp H
  obtain ⟨⟨t258, t259⟩, A1740, H⟩ := H
  try dsimp +instances only at H
  replace H := H
  have A174 := Aside0.mk A1740
  clear A1740
  replace H := Option.bind_eq_some_iff.mp H
  obtain ⟨⟨t260, t261⟩, A1750, H⟩ := H
  try dsimp +instances only at H
  replace H := H
  have A175 := Aside0.mk A1750
  clear A1750
  have HC176 := Aside0.mk H
  clear H
  go_upto_region 46 with (first | (go_at_call 20; (with_reducible refine (impl_PlayMoves.calls kj95 a1 _ _ l2 t246 t247 _ ?side1 ?side2 A168.out).mono ?_); (case side1 => repeat (first | exact (Kd.C_below HR2.out HB.out) | (with_reducible refine Kd.C_alloc ?_ _) | (with_reducible refine Kd.C_drewN ?_ _) | (with_reducible refine Kd.C_drew ?_))); (case side2 => exact HC2.out); rintro e w177 ⟨rfl, hb⟩; have n0_ := Aside0.mk (below_step (by repeat (first | (with_reducible first | exact HB.out | apply below_alloc | apply pw_below_drewN | apply below_drew1) | exact HB.out)) hb); clear HB; have HB := n0_; clear n0_; (try clear hb); (try clear hb2); (try clear hk); (try clear hi)) | (go_at_call 21; (with_reducible refine (spec_PlayMoves.calls kj95 a1 _ _ l2 t248 t249 _ ?side1 ?side2 A169.out).mono ?_); (case side1 => repeat (first | exact (Kd.C_below HR2.out HB.out) | (with_reducible refine Kd.C_alloc ?_ _) | (with_reducible refine Kd.C_drewN ?_ _) | (with_reducible refine Kd.C_drew ?_))); (case side2 => exact HC2.out); rintro e w' ⟨rfl, ⟨nd, rfl⟩⟩; (try first | exact ⟨rfl, _, World.drewN_drewN _ _ _⟩ | exact ⟨rfl, _, Eq.trans (World.drewN_drewN _ _ _) (congrArg (World.drewN _) (Nat.add_assoc _ _ _))⟩)) | (go_at_call 22; (with_reducible refine (impl_MoveThatFails.calls kj95 a1 _ _ l2 t250 t251 _ ?side1 ?side2 A170.out).mono ?_); (case side1 => repeat (first | exact (Kd.C_below HR2.out (by repeat (first | (with_reducible first | exact HB.out | apply below_alloc | apply pw_below_drewN | apply below_drew1) | exact HB.out))) | (with_reducible refine Kd.C_alloc ?_ _) | (with_reducible refine Kd.C_drewN ?_ _) | (with_reducible refine Kd.C_drew ?_))); (case side2 => exact HC2.out); rintro e w178 ⟨rfl, hb⟩; have n0_ := Aside0.mk (below_step (by repeat (first | (with_reducible first | exact HB.out | apply below_alloc | apply pw_below_drewN | apply below_drew1) | exact HB.out)) hb); clear HB; have HB := n0_; clear n0_; (try clear hb); (try clear hb2); (try clear hk); (try clear hi)) | (go_at_call 23; (with_reducible refine (spec_MoveThatFails.calls kj95 a1 _ _ l2 t252 t253 _ ?side1 ?side2 A171.out).mono ?_); (case side1 => repeat (first | exact (Kd.C_below HR2.out HB.out) | (with_reducible refine Kd.C_alloc ?_ _) | (with_reducible refine Kd.C_drewN ?_ _) | (with_reducible refine Kd.C_drew ?_))); (case side2 => exact HC2.out); rintro e w' ⟨rfl, ⟨nd, rfl⟩⟩; (try first | exact ⟨rfl, _, World.drewN_drewN _ _ _⟩ | exact ⟨rfl, _, Eq.trans (World.drewN_drewN _ _ _) (congrArg (World.drewN _) (Nat.add_assoc _ _ _))⟩)) | (go_at_call 17; (with_reducible refine (impl_MoveRing.calls a3 a4 t254 t255 _ A172.out).mono ?_); rintro e w179 ⟨rfl, hb⟩; have n0_ := Aside0.mk (below_step (by repeat (first | (with_reducible first | exact HB.out | apply below_alloc | apply pw_below_drewN | apply below_drew1) | exact HB.out)) hb); clear HB; have HB := n0_; clear n0_; (try clear hb); (try clear hb2); (try clear hk); (try clear hi)) | (go_at_call 24; (with_reducible refine (spec_MoveRing.calls kj95 a3 a4 t256 t257 _ A173.out).mono ?_); rintro e w' ⟨rfl, ⟨nd, rfl⟩⟩; (try first | exact ⟨rfl, _, World.drewN_drewN _ _ _⟩ | exact ⟨rfl, _, Eq.trans (World.drewN_drewN _ _ _) (congrArg (World.drewN _) (Nat.add_assoc _ _ _))⟩)) | (go_at_call 16; (with_reducible refine (impl_StateOfNumber.calls kj95 a5 a6 t258 t259 _ A174.out).mono ?_); rintro e w180 ⟨rfl, hb⟩; have n0_ := Aside0.mk (below_step (by repeat (first | (with_reducible first | exact HB.out | apply below_alloc | apply pw_below_drewN | apply below_drew1) | exact HB.out)) hb); clear HB; have HB := n0_; clear n0_; (try clear hb); (try clear hb2); (try clear hk); (try clear hi)) | (go_at_call 25; (with_reducible refine (spec_StateOfNumber.calls kj95 a5 a6 t260 t261 _ A175.out).mono ?_); rintro e w' ⟨rfl, ⟨nd, rfl⟩⟩; (try first | exact ⟨rfl, _, World.drewN_drewN _ _ _⟩ | exact ⟨rfl, _, Eq.trans (World.drewN_drewN _ _ _) (congrArg (World.drewN _) (Nat.add_assoc _ _ _))⟩)))
  repeat (go_quiet (first | (go_at_call 20; (with_reducible refine (impl_PlayMoves.calls kj95 a1 _ _ l2 t246 t247 _ ?side1 ?side2 A168.out).mono ?_); (case side1 => repeat (first | exact (Kd.C_below HR2.out HB.out) | (with_reducible refine Kd.C_alloc ?_ _) | (with_reducible refine Kd.C_drewN ?_ _) | (with_reducible refine Kd.C_drew ?_))); (case side2 => exact HC2.out); rintro e w177 ⟨rfl, hb⟩; have n0_ := Aside0.mk (below_step (by repeat (first | (with_reducible first | exact HB.out | apply below_alloc | apply pw_below_drewN | apply below_drew1) | exact HB.out)) hb); clear HB; have HB := n0_; clear n0_; (try clear hb); (try clear hb2); (try clear hk); (try clear hi)) | (go_at_call 21; (with_reducible refine (spec_PlayMoves.calls kj95 a1 _ _ l2 t248 t249 _ ?side1 ?side2 A169.out).mono ?_); (case side1 => repeat (first | exact (Kd.C_below HR2.out HB.out) | (with_reducible refine Kd.C_alloc ?_ _) | (with_reducible refine Kd.C_drewN ?_ _) | (with_reducible refine Kd.C_drew ?_))); (case side2 => exact HC2.out); rintro e w' ⟨rfl, ⟨nd, rfl⟩⟩; (try first | exact ⟨rfl, _, World.drewN_drewN _ _ _⟩ | exact ⟨rfl, _, Eq.trans (World.drewN_drewN _ _ _) (congrArg (World.drewN _) (Nat.add_assoc _ _ _))⟩)) | (go_at_call 22; (with_reducible refine (impl_MoveThatFails.calls kj95 a1 _ _ l2 t250 t251 _ ?side1 ?side2 A170.out).mono ?_); (case side1 => repeat (first | exact (Kd.C_below HR2.out (by repeat (first | (with_reducible first | exact HB.out | apply below_alloc | apply pw_below_drewN | apply below_drew1) | exact HB.out))) | (with_reducible refine Kd.C_alloc ?_ _) | (with_reducible refine Kd.C_drewN ?_ _) | (with_reducible refine Kd.C_drew ?_))); (case side2 => exact HC2.out); rintro e w178 ⟨rfl, hb⟩; have n0_ := Aside0.mk (below_step (by repeat (first | (with_reducible first | exact HB.out | apply below_alloc | apply pw_below_drewN | apply below_drew1) | exact HB.out)) hb); clear HB; have HB := n0_; clear n0_; (try clear hb); (try clear hb2); (try clear hk); (try clear hi)) | (go_at_call 23; (with_reducible refine (spec_MoveThatFails.calls kj95 a1 _ _ l2 t252 t253 _ ?side1 ?side2 A171.out).mono ?_); (case side1 => repeat (first | exact (Kd.C_below HR2.out HB.out) | (with_reducible refine Kd.C_alloc ?_ _) | (with_reducible refine Kd.C_drewN ?_ _) | (with_reducible refine Kd.C_drew ?_))); (case side2 => exact HC2.out); rintro e w' ⟨rfl, ⟨nd, rfl⟩⟩; (try first | exact ⟨rfl, _, World.drewN_drewN _ _ _⟩ | exact ⟨rfl, _, Eq.trans (World.drewN_drewN _ _ _) (congrArg (World.drewN _) (Nat.add_assoc _ _ _))⟩)) | (go_at_call 17; (with_reducible refine (impl_MoveRing.calls a3 a4 t254 t255 _ A172.out).mono ?_); rintro e w179 ⟨rfl, hb⟩; have n0_ := Aside0.mk (below_step (by repeat (first | (with_reducible first | exact HB.out | apply below_alloc | apply pw_below_drewN | apply below_drew1) | exact HB.out)) hb); clear HB; have HB := n0_; clear n0_; (try clear hb); (try clear hb2); (try clear hk); (try clear hi)) | (go_at_call 24; (with_reducible refine (spec_MoveRing.calls kj95 a3 a4 t256 t257 _ A173.out).mono ?_); rintro e w' ⟨rfl, ⟨nd, rfl⟩⟩; (try first | exact ⟨rfl, _, World.drewN_drewN _ _ _⟩ | exact ⟨rfl, _, Eq.trans (World.drewN_drewN _ _ _) (congrArg (World.drewN _) (Nat.add_assoc _ _ _))⟩)) | (go_at_call 16; (with_reducible refine (impl_StateOfNumber.calls kj95 a5 a6 t258 t259 _ A174.out).mono ?_); rintro e w180 ⟨rfl, hb⟩; have n0_ := Aside0.mk (below_step (by repeat (first | (with_reducible first | exact HB.out | apply below_alloc | apply pw_below_drewN | apply below_drew1) | exact HB.out)) hb); clear HB; have HB := n0_; clear n0_; (try clear hb); (try clear hb2); (try clear hk); (try clear hi)) | (go_at_call 25; (with_reducible refine (spec_StateOfNumber.calls kj95 a5 a6 t260 t261 _ A175.out).mono ?_); rintro e w' ⟨rfl, ⟨nd, rfl⟩⟩; (try first | exact ⟨rfl, _, World.drewN_drewN _ _ _⟩ | exact ⟨rfl, _, Eq.trans (World.drewN_drewN _ _ _) (congrArg (World.drewN _) (Nat.add_assoc _ _ _))⟩))); go_upto_region 46 with (first | (go_at_call 20; (with_reducible refine (impl_PlayMoves.calls kj95 a1 _ _ l2 t246 t247 _ ?side1 ?side2 A168.out).mono ?_); (case side1 => repeat (first | exact (Kd.C_below HR2.out HB.out) | (with_reducible refine Kd.C_alloc ?_ _) | (with_reducible refine Kd.C_drewN ?_ _) | (with_reducible refine Kd.C_drew ?_))); (case side2 => exact HC2.out); rintro e w177 ⟨rfl, hb⟩; have n0_ := Aside0.mk (below_step (by repeat (first | (with_reducible first | exact HB.out | apply below_alloc | apply pw_below_drewN | apply below_drew1) | exact HB.out)) hb); clear HB; have HB := n0_; clear n0_; (try clear hb); (try clear hb2); (try clear hk); (try clear hi)) | (go_at_call 21; (with_reducible refine (spec_PlayMoves.calls kj95 a1 _ _ l2 t248 t249 _ ?side1 ?side2 A169.out).mono ?_); (case side1 => repeat (first | exact (Kd.C_below HR2.out HB.out) | (with_reducible refine Kd.C_alloc ?_ _) | (with_reducible refine Kd.C_drewN ?_ _) | (with_reducible refine Kd.C_drew ?_))); (case side2 => exact HC2.out); rintro e w' ⟨rfl, ⟨nd, rfl⟩⟩; (try first | exact ⟨rfl, _, World.drewN_drewN _ _ _⟩ | exact ⟨rfl, _, Eq.trans (World.drewN_drewN _ _ _) (congrArg (World.drewN _) (Nat.add_assoc _ _ _))⟩)) | (go_at_call 22; (with_reducible refine (impl_MoveThatFails.calls kj95 a1 _ _ l2 t250 t251 _ ?side1 ?side2 A170.out).mono ?_); (case side1 => repeat (first | exact (Kd.C_below HR2.out (by repeat (first | (with_reducible first | exact HB.out | apply below_alloc | apply pw_below_drewN | apply below_drew1) | exact HB.out))) | (with_reducible refine Kd.C_alloc ?_ _) | (with_reducible refine Kd.C_drewN ?_ _) | (with_reducible refine Kd.C_drew ?_))); (case side2 => exact HC2.out); rintro e w178 ⟨rfl, hb⟩; have n0_ := Aside0.mk (below_step (by repeat (first | (with_reducible first | exact HB.out | apply below_alloc | apply pw_below_drewN | apply below_drew1) | exact HB.out)) hb); clear HB; have HB := n0_; clear n0_; (try clear hb); (try clear hb2); (try clear hk); (try clear hi)) | (go_at_call 23; (with_reducible refine (spec_MoveThatFails.calls kj95 a1 _ _ l2 t252 t253 _ ?side1 ?side2 A171.out).mono ?_); (case side1 => repeat (first | exact (Kd.C_below HR2.out HB.out) | (with_reducible refine Kd.C_alloc ?_ _) | (with_reducible refine Kd.C_drewN ?_ _) | (with_reducible refine Kd.C_drew ?_))); (case side2 => exact HC2.out); rintro e w' ⟨rfl, ⟨nd, rfl⟩⟩; (try first | exact ⟨rfl, _, World.drewN_drewN _ _ _⟩ | exact ⟨rfl, _, Eq.trans (World.drewN_drewN _ _ _) (congrArg (World.drewN _) (Nat.add_assoc _ _ _))⟩)) | (go_at_call 17; (with_reducible refine (impl_MoveRing.calls a3 a4 t254 t255 _ A172.out).mono ?_); rintro e w179 ⟨rfl, hb⟩; have n0_ := Aside0.mk (below_step (by repeat (first | (with_reducible first | exact HB.out | apply below_alloc | apply pw_below_drewN | apply below_drew1) | exact HB.out)) hb); clear HB; have HB := n0_; clear n0_; (try clear hb); (try clear hb2); (try clear hk); (try clear hi)) | (go_at_call 24; (with_reducible refine (spec_MoveRing.calls kj95 a3 a4 t256 t257 _ A173.out).mono ?_); rintro e w' ⟨rfl, ⟨nd, rfl⟩⟩; (try first | exact ⟨rfl, _, World.drewN_drewN _ _ _⟩ | exact ⟨rfl, _, Eq.trans (World.drewN_drewN _ _ _) (congrArg (World.drewN _) (Nat.add_assoc _ _ _))⟩)) | (go_at_call 16; (with_reducible refine (impl_StateOfNumber.calls kj95 a5 a6 t258 t259 _ A174.out).mono ?_); rintro e w180 ⟨rfl, hb⟩; have n0_ := Aside0.mk (below_step (by repeat (first | (with_reducible first | exact HB.out | apply below_alloc | apply pw_below_drewN | apply below_drew1) | exact HB.out)) hb); clear HB; have HB := n0_; clear n0_; (try clear hb); (try clear hb2); (try clear hk); (try clear hi)) | (go_at_call 25; (with_reducible refine (spec_StateOfNumber.calls kj95 a5 a6 t260 t261 _ A175.out).mono ?_); rintro e w' ⟨rfl, ⟨nd, rfl⟩⟩; (try first | exact ⟨rfl, _, World.drewN_drewN _ _ _⟩ | exact ⟨rfl, _, Eq.trans (World.drewN_drewN _ _ _) (congrArg (World.drewN _) (Nat.add_assoc _ _ _))⟩))))
  (try simp only [Act.put, List.setIfInBounds_toArray, List.set_cons_zero, List.set_cons_succ])
  refine wp_cutF [o_,o_,o_,o_,o_,o_,o_,o_,o_,o_,o_,o_,o_,o_,o_,o_,o_,o_,o_,o_,o_,o_,o_,o_,o_,o_,o_,o_,o_,o_,o_,o_,o_,o_,o_,o_,o_,o_,o_,o_,o_,o_,o_,o_,o_,o_,o_,o_,o_,o_,o_,o_,o_,o_,o_,o_,o_,o_,o_,o_,o_,o_,o_,o_,o_,o_,o_,o_,o_,o_,o_,o_,o_,o_,o_,i_,i_,i_,i_,i_,i_,i_,i_,i_,i_,i_,i_,i_,i_,i_,i_,i_,i_,i_,i_,i_,i_,i_,i_,i_,i_,i_,i_,i_,i_,i_,i_,i_,i_,i_,i_,i_,i_,i_,i_,i_,i_,i_,i_,i_,i_,i_,i_,i_,i_,i_,i_,i_,i_,i_,i_,i_,i_,i_,i_,i_,i_,i_,i_,i_,i_,i_,i_,i_,i_,i_,i_,i_,i_,i_,i_,i_,i_,i_,i_,i_,i_,i_,i_,i_,i_,i_,i_,i_,i_,i_,i_,i_,i_,i_,i_,i_,i_,i_,i_,i_,i_,i_,i_,i_,i_,i_,i_,i_,i_,i_,i_,i_,i_,i_,i_,i_,i_,i_,i_,i_,i_,i_,i_,i_,i_,i_,i_,i_,i_,i_,i_,i_,i_,i_,i_,i_,i_,i_,i_,i_,i_,i_,i_,i_,i_,i_,i_,i_,i_,i_,i_,i_,i_,i_,i_,i_,i_,i_,i_,i_,i_,i_,i_,i_,i_,i_,i_,i_,i_,i_,i_,i_,i_,i_,i_,i_,i_,i_,i_,i_,i_,i_,i_,i_,i_,i_,i_,i_,i_,i_,i_,i_,i_,i_,i_,i_,i_,i_,i_,i_,o_,o_,o_,i_,i_,i_,i_,i_,i_,i_,i_,i_,i_,i_,i_,i_,i_,i_,i_,i_,i_,i_,i_,i_,i_,i_,i_,i_,i_,i_,i_,i_,i_,i_,i_,i_,i_,i_,i_,i_,i_,i_,i_,i_,i_,i_,o_,o_,i_,i_,i_,i_,i_,i_,i_,i_,i_,i_,i_,i_,i_,i_,o_,o_,o_,i_,i_,i_,i_,i_,i_,i_,i_,i_,i_,i_,i_,i_,i_,i_,i_,i_,i_,i_,i_,i_,i_,i_,i_,i_,i_,i_,i_,i_,i_,i_,i_,i_,i_,i_,i_,i_,i_,i_,i_,i_,i_,i_,i_,i_,i_,i_,i_,i_,i_,i_,i_,i_,i_,i_,i_,i_,i_,i_,i_,i_,i_,i_,i_,i_,i_,i_,i_,i_,i_,i_,i_,i_,i_,i_,i_,i_,i_,i_,i_,i_,i_,i_,i_,i_,i_,i_,i_,i_,i_,i_,i_,i_,i_,i_,i_,i_,i_,i_,i_,i_,i_,i_,i_,i_,i_,i_,i_,i_,i_,i_,o_,o_,o_,i_,i_,i_,i_,i_,i_,i_,i_,i_,i_,i_,i_,i_,i_,i_,i_,i_,i_,i_,i_,i_,i_,i_,i_,i_,i_,i_,i_,i_,i_,i_,i_,i_,i_,i_,i_,i_,i_,i_,i_,i_,i_,i_,i_,i_,i_,i_,i_,i_,i_,i_,i_,i_,i_,i_] (fun f_ wc => ∃ (kq : Nat) (x449_175 : Bool), (f_ 449) = .bool x449_175 ∧ Aside0 (laws_FnRingsMoveOfAll.j8 kq a1 l2 a5 a6 t246 t247 t250 t251 t258 t259 x449_175 = some r) ∧ Aside0 (kq ≤ kj95) ∧ Aside0 (Below w.heap.size w wc)) ?rest ?first
  case first =>
   intro J_ K_ hJ_ hK_
   repeat revert ‹_›
   intro HP0_ HP1_
   exact HP0_.out
  case rest =>
   intro f_ wc hcut
   dsimp only [maskF] at hcut ⊢
   generalize f_ 449 = u449 at hcut ⊢
   repeat revert ‹_›
   intro HP0_ HP1_
   exact HP1_.out

theorem laws_FnRingsMoveOfAll.c16 : laws_FnRingsMoveOfAll.c15.1 := by
 intro k a0 a1 A2 c2 l2 a3 a4 a5 a6 r w HR2 HC2 _ _ _ _ kj7 HJ7 t201 t202 A13 t205 t206 A14 t209 t210 A15 t211 t212 A16 t213 t214 A17 t215 t216 A18 t217 t218 t219 A19 t222 t223 t224 A20 w22 v203 w23 v207 w24 _ w25 _ w26 v220 w27 v225 HO204 HO208 HO221 HO226 _ _ _ HO_15 HO_27 _ kj20 HJ20 f_ wc kj95 HJ95 t246 t247 A168 t248 t249 A169 t250 t251 A170 t252 t253 A171 t254 t255 A172 t256 t257 A173 t258 t259 A174 t260 t261 A175 HC176 w177 _ w178 _ w179 _ w180 HB nd _ _ _ _ J_ K_ hJ_ hK_
 have H := HC176.out
 clear HC176
 by_cases c181 : (t247 != t249) = true
 ·rw [if_pos c181] at H
  have c181b0 : (t247 != t249) = true := c181
  (try (have c181b1 : decide (t247 = t249) = false := by simpa using c181))
  (try (have c181b2 : (t247 == t249) = false := by simpa using c181))
  (try (have c181b3 : ¬ (t247 = t249) := by simpa using c181))
  clear c181
  (first | rw [c181b0] | (simp only [i64_w, i32_w]; rw [c181b0]) | skip)
  have H' := Aside0.mk H
  clear H
  go_wp2
  repeat (go_quiet (fail); try go_wp2)
  refine Met.intro (hJ_ _ _ ?mg_ ?rel)
  case mg_ => kernel_rfl
  case rel => exact ⟨_, (true), (by first | rfl | ((conv => lhs; whnf); first | rfl | (simp; done) | (simp [*]; done))), H', ⟨by have := HJ7.out; have := HJ20.out; have := HJ95.out; first | omega | exact Nat.le_refl _⟩, ⟨by repeat (first | (with_reducible first | exact HB.out | apply below_alloc | apply pw_below_drewN | apply below_drew1) | exact HB.out)⟩⟩
 ·rw [if_neg c181] at H
  have c181b0 : (t247 != t249) = false := by simpa using c181
  (try (have c181b1 : decide (t247 = t249) = true := by simpa using c181))
  (try (have c181b2 : (t247 == t249) = true := by simpa using c181))
  clear c181
  (try (have c181e : t247 = t249 := by first | simpa using c181b0 | (simpa using (bne_eq_false_iff_eq.mp c181b0).symm)); (subst c181e))
  (first | rw [c181b0] | (simp only [i64_w, i32_w]; rw [c181b0]) | skip)
  by_cases c182 : t246.toList = t248.toList
  ·rw [if_pos c182] at H
   have c182b0 : (t246.toList == t248.toList) = true := beq_iff_eq.mpr c182
   have c182b1 : (t246.toList != t248.toList) = false := bne_eq_false_iff_eq.mpr c182
   (try (have c182n1 : (!(t246.toList == t248.toList)) = false := c182b1))
   clear c182
   by_cases c183 : (t251 != t253) = true
   ·rw [if_pos c183] at H
    have c183b0 : (t251 != t253) = true := c183
    (try (have c183b1 : decide (t251 = t253) = false := by simpa using c183))
    (try (have c183b2 : (t251 == t253) = false := by simpa using c183))
    (try (have c183b3 : ¬ (t251 = t253) := by simpa using c183))
    clear c183
    have H' := Aside0.mk H
    clear H
    go_wp2
    repeat (go_quiet (fail); try go_wp2)
    refine Met.intro (hJ_ _ _ ?mg_ ?rel)
    case mg_ => kernel_rfl
    case rel => exact ⟨_, (true), (by first | rfl | ((conv => lhs; whnf); first | rfl | (simp; done) | (simp [*]; done))), H', ⟨by have := HJ7.out; have := HJ20.out; have := HJ95.out; first | omega | exact Nat.le_refl _⟩, ⟨by repeat (first | (with_reducible first | exact HB.out | apply below_alloc | apply pw_below_drewN | apply below_drew1) | exact HB.out)⟩⟩
   ·rw [if_neg c183] at H
    have c183b0 : (t251 != t253) = false := by simpa using c183
    (try (have c183b1 : decide (t251 = t253) = true := by simpa using c183))
    (try (have c183b2 : (t251 == t253) = true := by simpa using c183))
    clear c183
    (try (have c183e : t251 = t253 := by first | simpa using c183b0 | (simpa using (bne_eq_false_iff_eq.mp c183b0).symm)); (subst c183e))
    by_cases c184 : t250 = t252
    ·rw [if_pos c184] at H
     have c184b0 : (t250 == t252) = true := beq_iff_eq.mpr c184
     have c184b1 : (t250 != t252) = false := bne_eq_false_iff_eq.mpr c184
     clear c184
     by_cases c185 : t247 = true
     ·subst c185
      rw [if_pos rfl] at H
      have H1 := H
      clear H
      have H := H1
      clear H1
      by_cases c186 : t251 = true
      ·subst c186
       rw [if_pos rfl] at H
       have H1 := H
       clear H
       have H := H1
       clear H1
       have H' := Aside0.mk H
       clear H
       go_wp2
       repeat (go_quiet (fail); try go_wp2)
       refine Met.intro (hJ_ _ _ ?mg_ ?rel)
       case mg_ => kernel_rfl
       case rel => exact ⟨_, (true), (by first | rfl | ((conv => lhs; whnf); first | rfl | (simp; done) | (simp [*]; done))), H', ⟨by have := HJ7.out; have := HJ20.out; have := HJ95.out; first | omega | exact Nat.le_refl _⟩, ⟨by repeat (first | (with_reducible first | exact HB.out | apply below_alloc | apply pw_below_drewN | apply below_drew1) | exact HB.out)⟩⟩
      ·replace c186 := Bool.eq_false_iff.mpr c186
       subst c186
       rw [if_neg (show ¬ (false = true) by decide)] at H
       have H1 := H
       clear H
       have H := H1
       clear H1
       by_cases c187 : (t255 != t257) = true
       ·rw [if_pos c187] at H
        have c187b0 : (t255 != t257) = true := c187
        (try (have c187b1 : decide (t255 = t257) = false := by simpa using c187))
        (try (have c187b2 : (t255 == t257) = false := by simpa using c187))
        (try (have c187b3 : ¬ (t255 = t257) := by simpa using c187))
        clear c187
        have H' := Aside0.mk H
        clear H
        go_wp2
        repeat (go_quiet (fail); try go_wp2)
        refine Met.intro (hJ_ _ _ ?mg_ ?rel)
        case mg_ => kernel_rfl
        case rel => exact ⟨_, (true), (by first | rfl | ((conv => lhs; whnf); first | rfl | (simp; done) | (simp [*]; done))), H', ⟨by have := HJ7.out; have := HJ20.out; have := HJ95.out; first | omega | exact Nat.le_refl _⟩, ⟨by repeat (first | (with_reducible first | exact HB.out | apply below_alloc | apply pw_below_drewN | apply below_drew1) | exact HB.out)⟩⟩
       ·rw [if_neg c187] at H
        have c187b0 : (t255 != t257) = false := by simpa using c187
        (try (have c187b1 : decide (t255 = t257) = true := by simpa using c187))
        (try (have c187b2 : (t255 == t257) = true := by simpa using c187))
        clear c187
        (try (have c187e : t255 = t257 := by first | simpa using c187b0 | (simpa using (bne_eq_false_iff_eq.mp c187b0).symm)); (subst c187e))
        by_cases c188 : t254.toList = t256.toList
        ·rw [if_pos c188] at H
         have c188b0 : (t254.toList == t256.toList) = true := beq_iff_eq.mpr c188
         have c188b1 : (t254.toList != t256.toList) = false := bne_eq_false_iff_eq.mpr c188
         (try (have c188n1 : (!(t254.toList == t256.toList)) = false := c188b1))
         clear c188
         by_cases c189 : (t259 != t261) = true
         ·rw [if_pos c189] at H
          have c189b0 : (t259 != t261) = true := c189
          (try (have c189b1 : decide (t259 = t261) = false := by simpa using c189))
          (try (have c189b2 : (t259 == t261) = false := by simpa using c189))
          (try (have c189b3 : ¬ (t259 = t261) := by simpa using c189))
          clear c189
          have H' := Aside0.mk H
          clear H
          go_wp2
          repeat (go_quiet (fail); try go_wp2)
          refine Met.intro (hJ_ _ _ ?mg_ ?rel)
          case mg_ => kernel_rfl
          case rel => exact ⟨_, (true), (by first | rfl | ((conv => lhs; whnf); first | rfl | (simp; done) | (simp [*]; done))), H', ⟨by have := HJ7.out; have := HJ20.out; have := HJ95.out; first | omega | exact Nat.le_refl _⟩, ⟨by repeat (first | (with_reducible first | exact HB.out | apply below_alloc | apply pw_below_drewN | apply below_drew1) | exact HB.out)⟩⟩
         ·rw [if_neg c189] at H
          have c189b0 : (t259 != t261) = false := by simpa using c189
          (try (have c189b1 : decide (t259 = t261) = true := by simpa using c189))
          (try (have c189b2 : (t259 == t261) = true := by simpa using c189))
          clear c189
          (try (have c189e : t259 = t261 := by first | simpa using c189b0 | (simpa using (bne_eq_false_iff_eq.mp c189b0).symm)); (subst c189e))
          have H' := Aside0.mk H
          clear H
          go_wp2
          repeat (go_quiet (fail); try go_wp2)
          refine Met.intro (hJ_ _ _ ?mg_ ?rel)
          case mg_ => kernel_rfl
          case rel => exact ⟨_, ((t258.toList != t260.toList)), (by first | rfl | ((conv => lhs; whnf); first | rfl | (simp; done) | (simp [*]; done))), H', ⟨by have := HJ7.out; have := HJ20.out; have := HJ95.out; first | omega | exact Nat.le_refl _⟩, ⟨by repeat (first | (with_reducible first | exact HB.out | apply below_alloc | apply pw_below_drewN | apply below_drew1) | exact HB.out)⟩⟩
        ·rw [if_neg c188] at H
         have c188b0 : (t254.toList == t256.toList) = false := beq_eq_false_iff_ne.mpr c188
         have c188b1 : (t254.toList != t256.toList) = true := bne_iff_ne.mpr c188
         (try (have c188n1 : (!(t254.toList == t256.toList)) = true := c188b1))
         have H' := Aside0.mk H
         clear H
         go_wp2
         repeat (go_quiet (fail); try go_wp2)
         refine Met.intro (hJ_ _ _ ?mg_ ?rel)
         case mg_ => kernel_rfl
         case rel => exact ⟨_, (true), (by first | rfl | ((conv => lhs; whnf); first | rfl | (simp; done) | (simp [*]; done))), H', ⟨by have := HJ7.out; have := HJ20.out; have := HJ95.out; first | omega | exact Nat.le_refl _⟩, ⟨by repeat (first | (with_reducible first | exact HB.out | apply below_alloc | apply pw_below_drewN | apply below_drew1) | exact HB.out)⟩⟩
     ·replace c185 := Bool.eq_false_iff.mpr c185
      subst c185
      rw [if_neg (show ¬ (false = true) by decide)] at H
      have H1 := H
      clear H
      have H := H1
      clear H1
      by_cases c190 : (t255 != t257) = true
      ·rw [if_pos c190] at H
       have c190b0 : (t255 != t257) = true := c190
       (try (have c190b1 : decide (t255 = t257) = false := by simpa using c190))
       (try (have c190b2 : (t255 == t257) = false := by simpa using c190))
       (try (have c190b3 : ¬ (t255 = t257) := by simpa using c190))
       clear c190
       have H' := Aside0.mk H
       clear H
       go_wp2
       repeat (go_quiet (fail); try go_wp2)
       refine Met.intro (hJ_ _ _ ?mg_ ?rel)
       case mg_ => kernel_rfl
       case rel => exact ⟨_, (true), (by first | rfl | ((conv => lhs; whnf); first | rfl | (simp; done) | (simp [*]; done))), H', ⟨by have := HJ7.out; have := HJ20.out; have := HJ95.out; first | omega | exact Nat.le_refl _⟩, ⟨by repeat (first | (with_reducible first | exact HB.out | apply below_alloc | apply pw_below_drewN | apply below_drew1) | exact HB.out)⟩⟩
      ·rw [if_neg c190] at H
       have c190b0 : (t255 != t257) = false := by simpa using c190
       (try (have c190b1 : decide (t255 = t257) = true := by simpa using c190))
       (try (have c190b2 : (t255 == t257) = true := by simpa using c190))
       clear c190
       (try (have c190e : t255 = t257 := by first | simpa using c190b0 | (simpa using (bne_eq_false_iff_eq.mp c190b0).symm)); (subst c190e))
       by_cases c191 : t254.toList = t256.toList
       ·rw [if_pos c191] at H
        have c191b0 : (t254.toList == t256.toList) = true := beq_iff_eq.mpr c191
        have c191b1 : (t254.toList != t256.toList) = false := bne_eq_false_iff_eq.mpr c191
        (try (have c191n1 : (!(t254.toList == t256.toList)) = false := c191b1))
        clear c191
        by_cases c192 : (t259 != t261) = true
        ·rw [if_pos c192] at H
         have c192b0 : (t259 != t261) = true := c192
         (try (have c192b1 : decide (t259 = t261) = false := by simpa using c192))
         (try (have c192b2 : (t259 == t261) = false := by simpa using c192))
         (try (have c192b3 : ¬ (t259 = t261) := by simpa using c192))
         clear c192
         have H' := Aside0.mk H
         clear H
         go_wp2
         repeat (go_quiet (fail); try go_wp2)
         refine Met.intro (hJ_ _ _ ?mg_ ?rel)
         case mg_ => kernel_rfl
         case rel => exact ⟨_, (true), (by first | rfl | ((conv => lhs; whnf); first | rfl | (simp; done) | (simp [*]; done))), H', ⟨by have := HJ7.out; have := HJ20.out; have := HJ95.out; first | omega | exact Nat.le_refl _⟩, ⟨by repeat (first | (with_reducible first | exact HB.out | apply below_alloc | apply pw_below_drewN | apply below_drew1) | exact HB.out)⟩⟩
        ·rw [if_neg c192] at H
         have c192b0 : (t259 != t261) = false := by simpa using c192
         (try (have c192b1 : decide (t259 = t261) = true := by simpa using c192))
         (try (have c192b2 : (t259 == t261) = true := by simpa using c192))
         clear c192
         (try (have c192e : t259 = t261 := by first | simpa using c192b0 | (simpa using (bne_eq_false_iff_eq.mp c192b0).symm)); (subst c192e))
         have H' := Aside0.mk H
         clear H
         go_wp2
         repeat (go_quiet (fail); try go_wp2)
         refine Met.intro (hJ_ _ _ ?mg_ ?rel)
         case mg_ => kernel_rfl
         case rel => exact ⟨_, ((t258.toList != t260.toList)), (by first | rfl | ((conv => lhs; whnf); first | rfl | (simp; done) | (simp [*]; done))), H', ⟨by have := HJ7.out; have := HJ20.out; have := HJ95.out; first | omega | exact Nat.le_refl _⟩, ⟨by repeat (first | (with_reducible first | exact HB.out | apply below_alloc | apply pw_below_drewN | apply below_drew1) | exact HB.out)⟩⟩
       ·rw [if_neg c191] at H
        have c191b0 : (t254.toList == t256.toList) = false := beq_eq_false_iff_ne.mpr c191
        have c191b1 : (t254.toList != t256.toList) = true := bne_iff_ne.mpr c191
        (try (have c191n1 : (!(t254.toList == t256.toList)) = true := c191b1))
        have H' := Aside0.mk H
        clear H
        go_wp2
        repeat (go_quiet (fail); try go_wp2)
        refine Met.intro (hJ_ _ _ ?mg_ ?rel)
        case mg_ => kernel_rfl
        case rel => exact ⟨_, (true), (by first | rfl | ((conv => lhs; whnf); first | rfl | (simp; done) | (simp [*]; done))), H', ⟨by have := HJ7.out; have := HJ20.out; have := HJ95.out; first | omega | exact Nat.le_refl _⟩, ⟨by repeat (first | (with_reducible first | exact HB.out | apply below_alloc | apply pw_below_drewN | apply below_drew1) | exact HB.out)⟩⟩
    ·rw [if_neg c184] at H
     have c184b0 : (t250 == t252) = false := beq_eq_false_iff_ne.mpr c184
     have c184b1 : (t250 != t252) = true := bne_iff_ne.mpr c184
     have H' := Aside0.mk H
     clear H
     go_wp2
     repeat (go_quiet (fail); try go_wp2)
     refine Met.intro (hJ_ _ _ ?mg_ ?rel)
     case mg_ => kernel_rfl
     case rel => exact ⟨_, (true), (by first | rfl | ((conv => lhs; whnf); first | rfl | (simp; done) | (simp [*]; done))), H', ⟨by have := HJ7.out; have := HJ20.out; have := HJ95.out; first | omega | exact Nat.le_refl _⟩, ⟨by repeat (first | (with_reducible first | exact HB.out | apply below_alloc | apply pw_below_drewN | apply below_drew1) | exact HB.out)⟩⟩
  ·rw [if_neg c182] at H
   have c182b0 : (t246.toList == t248.toList) = false := beq_eq_false_iff_ne.mpr c182
   have c182b1 : (t246.toList != t248.toList) = true := bne_iff_ne.mpr c182
   (try (have c182n1 : (!(t246.toList == t248.toList)) = true := c182b1))
   have H' := Aside0.mk H
   clear H
   go_wp2
   repeat (go_quiet (fail); try go_wp2)
   refine Met.intro (hJ_ _ _ ?mg_ ?rel)
   case mg_ => kernel_rfl
   case rel => exact ⟨_, (true), (by first | rfl | ((conv => lhs; whnf); first | rfl | (simp; done) | (simp [*]; done))), H', ⟨by have := HJ7.out; have := HJ20.out; have := HJ95.out; first | omega | exact Nat.le_refl _⟩, ⟨by repeat (first | (with_reducible first | exact HB.out | apply below_alloc | apply pw_below_drewN | apply below_drew1) | exact HB.out)⟩⟩

def laws_FnRingsMoveOfAll.c17 : PSigma fun P0_ : Prop => PSigma fun P1_ : Prop => Hole P0_ → Hole P1_ → laws_FnRingsMoveOfAll.c15.2.1 := by
 refine' ⟨_, _, fun HP0_ HP1_ => _⟩
 rotate_left 2
 intro k a0 a1 A2 c2 l2 a3 a4 a5 a6 r w HR2 HC2 _ _ _ _ kj7 HJ7 t201 t202 A13 t205 t206 A14 t209 t210 A15 t211 t212 A16 t213 t214 A17 t215 t216 A18 t217 t218 t219 A19 t222 t223 t224 A20 w22 v203 w23 v207 w24 _ w25 _ w26 v220 w27 v225 HO204 HO208 HO221 HO226 _ _ _ HO_15 HO_27 _ kj20 HJ20 _ _ kj95 HJ95 t246 t247 A168 t248 t249 A169 t250 t251 A170 t252 t253 A171 t254 t255 A172 t256 t257 A173 t258 t259 A174 t260 t261 A175 HC176 w177 _ w178 _ w179 _ w180 HB nd _ _ _ _ f_ wc u449 hcut
 clear HC176
 try clear c1
 try clear p1
 try clear q1
 try clear hx1
 try clear c2
 try clear p2
 try clear q2
 try clear hx2
 try clear qi2
 try clear c3
 try clear c4
 try clear c5
 try clear c6
 try clear p6
 try clear c9
 try clear c9b0
 try clear c9b1
 try clear c10
 try clear c10b0
 try clear c10b1
 try clear c11
 try clear c11b0
 try clear c11b1
 try clear c12
 try clear c13
 try clear c14
 try clear c15
 try clear p15
 try clear q15
 try clear hx15
 try clear c16
 try clear c18
 try clear c19
 try clear p23
 try clear q23
 try clear hx23
 try clear qi23
 try clear p24
 try clear q24
 try clear hx24
 try clear c28
 try clear c28b0
 try clear c28b1
 try clear c28b2
 try clear c30
 try clear c31
 try clear c31b0
 try clear c31b1
 try clear c31b2
 try clear c34
 try clear c34b0
 try clear c34b1
 try clear c35
 try clear c35b0
 try clear c35b1
 try clear c35b2
 try clear c38
 try clear c38b0
 try clear c38b1
 try clear c39
 try clear c39b0
 try clear c39b1
 try clear c39b2
 try clear c43
 try clear c44
 try clear c44b0
 try clear c44b1
 try clear c46
 try clear c46b0
 try clear c46b1
 try clear c46b2
 try clear c54
 try clear c54b0
 try clear c54b1
 try clear c54b2
 try clear c61
 try clear c61b0
 try clear c61b1
 try clear c61b2
 try clear p64
 try clear c68
 try clear c68b0
 try clear c68b1
 try clear c68b2
 try clear c95
 try clear c97
 try clear c101
 try clear c101b0
 try clear c101b1
 try clear c103
 try clear c103b0
 try clear c103b1
 try clear c105
 try clear c105b0
 try clear c105b1
 try clear c106
 try clear c106b0
 try clear c106b1
 try clear c107
 try clear c107b0
 try clear c110
 try clear c110b0
 try clear c112
 try clear c113
 try clear c113b0
 try clear c113b1
 try clear c114
 try clear c114b0
 try clear c114b1
 try clear c115
 try clear c115b0
 try clear c115b1
 try clear c115b2
 try clear c117
 try clear c117b0
 try clear c117b1
 try clear c122
 try clear c122b0
 try clear c123
 try clear c123b0
 try clear c123b1
 try clear c123b2
 try clear c125
 try clear c125b0
 try clear c125b1
 try clear c133
 try clear c135
 try clear c135b0
 try clear c136
 try clear c136b0
 try clear c137
 try clear c137b0
 try clear c145
 try clear c146
 try clear c147
 try clear c147b0
 try clear c147b1
 try clear c148
 try clear c150
 try clear c151
 try clear c151b0
 try clear c152
 try clear c152b0
 try clear c153
 try clear c153b0
 try clear p154
 try clear q154
 try clear hx154
 try clear c155
 try clear c155b0
 try clear p156
 try clear q156
 try clear hx156
 try clear c157
 try clear c157b0
 try clear c157b1
 try clear c157b2
 try clear c159
 try clear c159b0
 try clear c160
 try clear c160b0
 try clear c161
 try clear c161b0
 try clear c163
 try clear c164
 try clear c164b0
 try clear c164b1
 try clear c181
 try clear c181b0
 try clear c181b1
 try clear c181b2
 try clear c182
 try clear c182b0
 try clear c182b1
 try clear c183
 try clear c183b0
 try clear c183b1
 try clear c183b2
 try clear c184
 try clear c184b0
 try clear c184b1
 try clear c185
 try clear c186
 try clear c187
 try clear c187b0
 try clear c187b1
 try clear c187b2
 try clear c188
 try clear c188b0
 try clear c188b1
 try clear c189
 try clear c189b0
 try clear c189b1
 try clear c189b2
 try clear c190
 try clear c190b0
 try clear c190b1
 try clear c190b2
 try clear c191
 try clear c191b0
 try clear c191b1
 try clear c192
 try clear c192b0
 try clear c192b1
 try clear c192b2
 try clear hx234_0
 try clear hx235_0
 try clear hx243_0
 try clear p1
 try clear p15
 try clear p154
 try clear p156
 try clear p2
 try clear p23
 try clear p234
 try clear p235
 try clear p24
 try clear p243
 try clear p6
 try clear p64
 try clear q1
 try clear q15
 try clear q154
 try clear q156
 try clear q2
 try clear q23
 try clear q234
 try clear q235
 try clear q24
 try clear q243
 obtain ⟨kq, x449_175, rfl, HA, HJ175, HB⟩ := hcut
 cases kq with
 | zero => exact absurd HA.out (by simp [laws_FnRingsMoveOfAll.j8])
 | succ kj175 =>
  have H := HA.out
  clear HA
  simp only [laws_FnRingsMoveOfAll.j8] at H
  by_cases c193 : x449_175 = true
  ·subst c193
   rw [if_pos rfl] at H
   have H1 := H
   clear H
   have H := H1
   clear H1
   obtain rfl := Option.some.inj H
   go_wp2
   repeat (go_quiet (fail); try go_wp2)
   go_ret
   exact ⟨by first | rfl | (simp [errW_none, errW_some] <;> rfl) | (simp [*, errW_none, errW_some] <;> rfl), by repeat (first | (with_reducible first | exact HB.out | apply below_alloc | apply pw_below_drewN | apply below_drew1) | exact HB.out)⟩
  ·replace c193 := Bool.eq_false_iff.mpr c193
   subst c193
   rw [if_neg (show ¬ (false = true) by decide)] at H
   have H1 := H
   clear H
   have H := H1
   clear H1
   have HC194 := Aside0.mk H
   clear H
   go_upto_if 450 with (fail)
   repeat (go_quiet (fail); go_upto_if 450 with (fail))
   refine wp_cutF [o_,o_,o_,o_,o_,o_,o_,o_,o_,o_,o_,o_,o_,o_,i_,o_,o_,o_,o_,o_,o_,o_,o_,o_,o_,o_,o_,o_,o_,o_,o_,o_,o_,o_,o_,o_,o_,o_,o_,o_,o_,o_,o_,o_,o_,o_,o_,o_,o_,o_,o_,o_,o_,o_,o_,o_,o_,o_,o_,o_,o_,o_,o_,o_,i_,o_,i_,i_,i_,o_,o_,o_,o_,o_,o_,i_,i_,i_,i_,i_,i_,i_,i_,i_,i_,i_,i_,i_,i_,i_,i_,i_,i_,i_,i_,i_,i_,i_,i_,i_,i_,i_,i_,i_,i_,i_,i_,i_,i_,i_,i_,i_,i_,i_,i_,i_,i_,i_,i_,i_,i_,i_,i_,i_,i_,i_,i_,i_,i_,i_,i_,i_,i_,i_,i_,i_,i_,i_,i_,i_,i_,i_,i_,i_,i_,i_,i_,i_,i_,i_,i_,i_,i_,i_,i_,i_,i_,i_,i_,i_,i_,i_,i_,i_,i_,i_,i_,i_,i_,i_,i_,i_,i_,i_,i_,i_,i_,i_,i_,i_,i_,i_,i_,i_,i_,i_,i_,i_,i_,i_,i_,i_,i_,i_,i_,i_,i_,i_,i_,i_,i_,i_,i_,i_,i_,i_,i_,i_,i_,i_,i_,i_,i_,i_,i_,i_,i_,i_,i_,i_,i_,i_,i_,i_,i_,i_,i_,i_,i_,i_,i_,i_,i_,i_,i_,i_,i_,i_,i_,i_,i_,i_,i_,i_,i_,i_,i_,i_,i_,i_,i_,i_,i_,i_,i_,i_,i_,i_,i_,i_,i_,i_,i_,i_,i_,i_,i_,i_,i_,i_,i_,i_,i_,i_,i_,i_,o_,o_,o_,i_,i_,i_,i_,i_,i_,i_,i_,i_,i_,i_,i_,i_,i_,i_,i_,i_,i_,i_,i_,i_,i_,i_,i_,i_,i_,i_,i_,i_,i_,i_,i_,i_,i_,i_,i_,i_,i_,i_,i_,i_,i_,i_,o_,o_,i_,i_,i_,i_,i_,i_,i_,i_,i_,i_,i_,i_,i_,i_,o_,o_,o_,i_,i_,i_,i_,i_,i_,i_,i_,i_,i_,i_,i_,i_,i_,i_,i_,i_,i_,i_,i_,i_,i_,i_,i_,i_,i_,i_,i_,i_,i_,i_,i_,i_,i_,i_,i_,i_,i_,i_,i_,i_,i_,i_,i_,i_,i_,i_,i_,i_,i_,i_,i_,i_,i_,i_,i_,i_,i_,i_,i_,i_,i_,i_,i_,i_,i_,i_,i_,i_,i_,i_,i_,i_,i_,i_,i_,i_,i_,i_,i_,i_,i_,i_,i_,i_,i_,i_,i_,i_,i_,i_,i_,i_,i_,i_,i_,i_,i_,i_,i_,i_,i_,i_,i_,i_,i_,i_,i_,i_,i_,i_,i_,i_,i_,i_,i_,i_,i_,i_,i_,i_,i_,i_,i_,i_,i_,i_,i_,i_,i_,i_,i_,i_,i_,i_,i_,i_,i_,i_,i_,i_,i_,i_,i_,i_,i_,i_,i_,i_,i_,i_,i_,i_,i_,i_,i_,i_,i_,i_,i_,i_,i_,i_,i_,i_,i_,i_,i_,i_] (fun f_ wc => ∃ (kq : Nat), Aside0 (laws_FnRingsMoveOfAll.j10 kq a1 l2 a5 a6 t250 t251 t258 t259 = some r) ∧ Aside0 (kq ≤ kj175) ∧ Aside0 (Below w.heap.size w wc)) ?rest ?first
   case first =>
    intro J_ K_ hJ_ hK_
    repeat revert ‹_›
    intro HP0_ HP1_
    exact HP0_.out
   case rest =>
    intro f_ wc hcut
    dsimp only [maskF] at hcut ⊢
    repeat revert ‹_›
    intro HP0_ HP1_
    exact HP1_.out

def laws_FnRingsMoveOfAll.c18 : PSigma fun P0_ : Prop => Hole P0_ → laws_FnRingsMoveOfAll.c17.1 := by
 refine' ⟨_, fun HP0_ => _⟩
 rotate_left 1
 intro k a0 a1 A2 c2 l2 a3 a4 a5 a6 r w HR2 HC2 _ _ _ _ kj7 HJ7 t201 t202 A13 t205 t206 A14 t209 t210 A15 t211 t212 A16 t213 t214 A17 t215 t216 A18 t217 t218 t219 A19 t222 t223 t224 A20 w22 v203 w23 v207 w24 _ w25 _ w26 v220 w27 v225 HO204 HO208 HO221 HO226 _ _ _ HO_15 HO_27 _ kj20 HJ20 _ _ kj95 HJ95 t246 t247 A168 t248 t249 A169 t250 t251 A170 t252 t253 A171 t254 t255 A172 t256 t257 A173 t258 t259 A174 t260 t261 A175 w177 _ w178 _ w179 _ w180 _ nd f_ wc HB kj175 HJ175 HC194 _ _ J_ K_ hJ_ hK_
 have H := HC194.out
 clear HC194
 by_cases c195 : t247 = true
 ·subst c195
  rw [if_pos rfl] at H
  have H1 := H
  clear H
  have H := H1
  clear H1
  have H' := Aside0.mk H
  clear H
  go_wp2
  repeat (go_quiet (fail); try go_wp2)
  go_loopg [64, 454] kj175 (fun kq v64 v454 w' => ∃ (x64_5 : ByteArray) (x454_5 : Int), v64 = .string x64_5 ∧ v454 = .int .i64 x454_5 ∧ Aside0 (laws_FnRingsMoveOfAll.l3 kq a1 l2 a5 a6 t246 t250 t251 t258 t259 x64_5 l2 (l2.length : Int) x454_5 = some r) ∧ Aside0 (kq ≤ kj175) ∧ Aside0 (Below w.heap.size w w'))
  case atStart => exact ⟨(a1), (0), (by first | rfl | (simp; done) | (simp [*]; done)), (by first | rfl | (simp; done) | (simp [*]; done)), H', ⟨Nat.le_refl _⟩, ⟨by repeat (first | (with_reducible first | exact HB.out | apply below_alloc | apply pw_below_drewN | apply below_drew1) | exact HB.out)⟩⟩
  case round =>
   repeat revert ‹_›
   intro HP0_
   exact HP0_.out
 ·replace c195 := Bool.eq_false_iff.mpr c195
  subst c195
  rw [if_neg (show ¬ (false = true) by decide)] at H
  have H1 := H
  clear H
  have H := H1
  clear H1
  have H' := Aside0.mk H
  clear H
  go_wp2
  repeat (go_quiet (fail); try go_wp2)
  refine Met.intro (hJ_ _ _ ?mg_ ?rel)
  case mg_ => kernel_rfl
  case rel => exact ⟨_, H', ⟨by have := HJ7.out; have := HJ20.out; have := HJ95.out; have := HJ175.out; first | omega | exact Nat.le_refl _⟩, ⟨by repeat (first | (with_reducible first | exact HB.out | apply below_alloc | apply pw_below_drewN | apply below_drew1) | exact HB.out)⟩⟩

theorem laws_FnRingsMoveOfAll.c19 : laws_FnRingsMoveOfAll.c18.1 := by
 intro k a0 a1 A2 c2 l2 a3 a4 a5 a6 r w HR2 HC2 _ _ _ _ kj7 HJ7 t201 t202 A13 t205 t206 A14 t209 t210 A15 t211 t212 A16 t213 t214 A17 t215 t216 A18 t217 t218 t219 A19 t222 t223 t224 A20 w22 v203 w23 v207 w24 _ w25 _ w26 v220 w27 v225 HO204 HO208 HO221 HO226 _ _ _ HO_15 HO_27 _ kj20 HJ20 _ _ kj95 HJ95 t246 t248 t249 A169 t250 t251 A170 t252 t253 A171 t254 t255 A172 t256 t257 A173 t258 t259 A174 t260 t261 A175 w177 _ w178 _ w179 _ w180 _ nd f_ wc HB kj175 HJ175 _ _ J_ K_ hK_ A168 hJ_ H' _ _ gk wr u14 u64 u66 u67 u68 u454 u455 u456 u457 u458 u459 u460 u461 u462 u463 u464 u465 u466 u467 hrel _ _ _ _
 clear H'
 try clear c1
 try clear p1
 try clear q1
 try clear hx1
 try clear c2
 try clear p2
 try clear q2
 try clear hx2
 try clear qi2
 try clear c3
 try clear c4
 try clear c5
 try clear c6
 try clear p6
 try clear c9
 try clear c9b0
 try clear c9b1
 try clear c10
 try clear c10b0
 try clear c10b1
 try clear c11
 try clear c11b0
 try clear c11b1
 try clear c12
 try clear c13
 try clear c14
 try clear c15
 try clear p15
 try clear q15
 try clear hx15
 try clear c16
 try clear c18
 try clear c19
 try clear p23
 try clear q23
 try clear hx23
 try clear qi23
 try clear p24
 try clear q24
 try clear hx24
 try clear c28
 try clear c28b0
 try clear c28b1
 try clear c28b2
 try clear c30
 try clear c31
 try clear c31b0
 try clear c31b1
 try clear c31b2
 try clear c34
 try clear c34b0
 try clear c34b1
 try clear c35
 try clear c35b0
 try clear c35b1
 try clear c35b2
 try clear c38
 try clear c38b0
 try clear c38b1
 try clear c39
 try clear c39b0
 try clear c39b1
 try clear c39b2
 try clear c43
 try clear c44
 try clear c44b0
 try clear c44b1
 try clear c46
 try clear c46b0
 try clear c46b1
 try clear c46b2
 try clear c54
 try clear c54b0
 try clear c54b1
 try clear c54b2
 try clear c61
 try clear c61b0
 try clear c61b1
 try clear c61b2
 try clear p64
 try clear c68
 try clear c68b0
 try clear c68b1
 try clear c68b2
 try clear c95
 try clear c97
 try clear c101
 try clear c101b0
 try clear c101b1
 try clear c103
 try clear c103b0
 try clear c103b1
 try clear c105
 try clear c105b0
 try clear c105b1
 try clear c106
 try clear c106b0
 try clear c106b1
 try clear c107
 try clear c107b0
 try clear c110
 try clear c110b0
 try clear c112
 try clear c113
 try clear c113b0
 try clear c113b1
 try clear c114
 try clear c114b0
 try clear c114b1
 try clear c115
 try clear c115b0
 try clear c115b1
 try clear c115b2
 try clear c117
 try clear c117b0
 try clear c117b1
 try clear c122
 try clear c122b0
 try clear c123
 try clear c123b0
 try clear c123b1
 try clear c123b2
 try clear c125
 try clear c125b0
 try clear c125b1
 try clear c133
 try clear c135
 try clear c135b0
 try clear c136
 try clear c136b0
 try clear c137
 try clear c137b0
 try clear c145
 try clear c146
 try clear c147
 try clear c147b0
 try clear c147b1
 try clear c148
 try clear c150
 try clear c151
 try clear c151b0
 try clear c152
 try clear c152b0
 try clear c153
 try clear c153b0
 try clear p154
 try clear q154
 try clear hx154
 try clear c155
 try clear c155b0
 try clear p156
 try clear q156
 try clear hx156
 try clear c157
 try clear c157b0
 try clear c157b1
 try clear c157b2
 try clear c159
 try clear c159b0
 try clear c160
 try clear c160b0
 try clear c161
 try clear c161b0
 try clear c163
 try clear c164
 try clear c164b0
 try clear c164b1
 try clear c181
 try clear c181b0
 try clear c181b1
 try clear c181b2
 try clear c182
 try clear c182b0
 try clear c182b1
 try clear c183
 try clear c183b0
 try clear c183b1
 try clear c183b2
 try clear c184
 try clear c184b0
 try clear c184b1
 try clear c185
 try clear c186
 try clear c187
 try clear c187b0
 try clear c187b1
 try clear c187b2
 try clear c188
 try clear c188b0
 try clear c188b1
 try clear c189
 try clear c189b0
 try clear c189b1
 try clear c189b2
 try clear c190
 try clear c190b0
 try clear c190b1
 try clear c190b2
 try clear c191
 try clear c191b0
 try clear c191b1
 try clear c192
 try clear c192b0
 try clear c192b1
 try clear c192b2
 try clear c193
 try clear c195
 try clear hx234_0
 try clear hx235_0
 try clear hx243_0
 try clear p1
 try clear p15
 try clear p154
 try clear p156
 try clear p2
 try clear p23
 try clear p234
 try clear p235
 try clear p24
 try clear p243
 try clear p6
 try clear p64
 try clear q1
 try clear q15
 try clear q154
 try clear q156
 try clear q2
 try clear q23
 try clear q234
 try clear q235
 try clear q24
 try clear q243
 obtain ⟨x64_5, x454_5, rfl, rfl, HA, HK5, HB⟩ := hrel
 cases gk with
 | zero => exact absurd HA.out (by simp [laws_FnRingsMoveOfAll.l3])
 | succ k5 =>
  have H := HA.out
  clear HA
  simp only [laws_FnRingsMoveOfAll.l3] at H
  by_cases c196 : x454_5 < (l2.length : Int)
  ·rw [if_pos c196] at H
   have c196b0 : decide (x454_5 < (l2.length : Int)) = true := decide_eq_true c196
   clear c196
   (first | rw [c196b0] | (simp only [i64_w, i32_w]; rw [c196b0]) | skip)
   by_cases c197 : 0 ≤ x454_5
   ·rw [if_pos c197] at H
    have c197b0 : decide (0 ≤ x454_5) = true := decide_eq_true c197
    clear c197
    by_cases c198 : x454_5 < (l2.length : Int)
    ·rw [if_pos c198] at H
     have c198b0 : decide (x454_5 < (l2.length : Int)) = true := decide_eq_true c198
     clear c198
     replace H := Option.bind_eq_some_iff.mp H
     obtain ⟨⟨t263, t264⟩, A1990, H⟩ := H
     try dsimp +instances only at H
     replace H := H
     have A199 := Aside0.mk A1990
     clear A1990
     by_cases c200 : t264 = true
     ·subst c200
      rw [if_pos rfl] at H
      have H1 := H
      clear H
      have H := H1
      clear H1
      have H' := Aside0.mk H
      clear H
      have p262 : 0 ≤ (x454_5 : Int) := of_decide_eq_true (by first | (with_reducible assumption) | assumption)
      have q262 : x454_5 < (l2.length : Int) := of_decide_eq_true (by first | (with_reducible assumption) | assumption)
      obtain ⟨ad262, e262, hx262_0⟩ := Kd.at_int HR2.out x454_5 p262 q262
      cases e262
      replace hx262_0 := (HB.out.cell (World.block_lt_of_cell? w _ hx262_0)).trans hx262_0
      replace p262 := eq_true p262
      replace q262 := eq_true q262
      go_wp2_with (first | (go_at_call 17; (with_reducible refine (impl_MoveRing.calls x64_5 (rd l2 x454_5) t263 true _ A199.out).mono ?_); rintro e w201 ⟨rfl, hb⟩; have n0_ := Aside0.mk (below_step (by repeat (first | (with_reducible first | exact HB.out | apply below_alloc | apply pw_below_drewN | apply below_drew1) | exact HB.out)) hb); clear HB; have HB := n0_; clear n0_; (try clear hb); (try clear hb2); (try clear hk); (try clear hi)))
      repeat (go_quiet (first | (go_at_call 17; (with_reducible refine (impl_MoveRing.calls x64_5 (rd l2 x454_5) t263 true _ A199.out).mono ?_); rintro e w201 ⟨rfl, hb⟩; have n0_ := Aside0.mk (below_step (by repeat (first | (with_reducible first | exact HB.out | apply below_alloc | apply pw_below_drewN | apply below_drew1) | exact HB.out)) hb); clear HB; have HB := n0_; clear n0_; (try clear hb); (try clear hb2); (try clear hk); (try clear hi))); try go_wp2_with (first | (go_at_call 17; (with_reducible refine (impl_MoveRing.calls x64_5 (rd l2 x454_5) t263 true _ A199.out).mono ?_); rintro e w201 ⟨rfl, hb⟩; have n0_ := Aside0.mk (below_step (by repeat (first | (with_reducible first | exact HB.out | apply below_alloc | apply pw_below_drewN | apply below_drew1) | exact HB.out)) hb); clear HB; have HB := n0_; clear n0_; (try clear hb); (try clear hb2); (try clear hk); (try clear hi))))
      go_roundg k5
      case measure => have := HJ7.out; have := HJ20.out; have := HJ95.out; have := HJ175.out; have := HK5.out; omega
      case rel => exact ⟨(t263), (wrap64 (x454_5 + 1)), (by first | rfl | ((conv => lhs; whnf); first | rfl | (simp; done) | (simp [*]; done))), (by first | rfl | ((conv => lhs; whnf); first | rfl | (simp; done) | (simp [*]; done))), H', ⟨by have := HJ7.out; have := HJ20.out; have := HJ95.out; have := HJ175.out; have := HK5.out; omega⟩, ⟨by repeat (first | (with_reducible first | exact HB.out | apply below_alloc | apply pw_below_drewN | apply below_drew1) | exact HB.out)⟩⟩
     ·replace c200 := Bool.eq_false_iff.mpr c200
      subst c200
      rw [if_neg (show ¬ (false = true) by decide)] at H
      have H1 := H
      clear H
      have H := H1
      clear H1
      obtain rfl := Option.some.inj H
      have p262 : 0 ≤ (x454_5 : Int) := of_decide_eq_true (by first | (with_reducible assumption) | assumption)
      have q262 : x454_5 < (l2.length : Int) := of_decide_eq_true (by first | (with_reducible assumption) | assumption)
      obtain ⟨ad262, e262, hx262_0⟩ := Kd.at_int HR2.out x454_5 p262 q262
      cases e262
      replace hx262_0 := (HB.out.cell (World.block_lt_of_cell? w _ hx262_0)).trans hx262_0
      replace p262 := eq_true p262
      replace q262 := eq_true q262
      go_wp2_with (first | (go_at_call 17; (with_reducible refine (impl_MoveRing.calls x64_5 (rd l2 x454_5) t263 false _ A199.out).mono ?_); rintro e w202 ⟨rfl, hb⟩; have n0_ := Aside0.mk (below_step (by repeat (first | (with_reducible first | exact HB.out | apply below_alloc | apply pw_below_drewN | apply below_drew1) | exact HB.out)) hb); clear HB; have HB := n0_; clear n0_; (try clear hb); (try clear hb2); (try clear hk); (try clear hi)))
      repeat (go_quiet (first | (go_at_call 17; (with_reducible refine (impl_MoveRing.calls x64_5 (rd l2 x454_5) t263 false _ A199.out).mono ?_); rintro e w202 ⟨rfl, hb⟩; have n0_ := Aside0.mk (below_step (by repeat (first | (with_reducible first | exact HB.out | apply below_alloc | apply pw_below_drewN | apply below_drew1) | exact HB.out)) hb); clear HB; have HB := n0_; clear n0_; (try clear hb); (try clear hb2); (try clear hk); (try clear hi))); try go_wp2_with (first | (go_at_call 17; (with_reducible refine (impl_MoveRing.calls x64_5 (rd l2 x454_5) t263 false _ A199.out).mono ?_); rintro e w202 ⟨rfl, hb⟩; have n0_ := Aside0.mk (below_step (by repeat (first | (with_reducible first | exact HB.out | apply below_alloc | apply pw_below_drewN | apply below_drew1) | exact HB.out)) hb); clear HB; have HB := n0_; clear n0_; (try clear hb); (try clear hb2); (try clear hk); (try clear hi))))
      go_ret
      exact ⟨by first | rfl | (simp [errW_none, errW_some] <;> rfl) | (simp [*, errW_none, errW_some] <;> rfl), by repeat (first | (with_reducible first | exact HB.out | apply below_alloc | apply pw_below_drewN | apply below_drew1) | exact HB.out)⟩
    ·rw [if_neg c198] at H
     exact absurd H (by simp)
   ·rw [if_neg c197] at H
    exact absurd H (by simp)
  ·rw [if_neg c196] at H
   have c196b0 : decide (x454_5 < (l2.length : Int)) = false := decide_eq_false c196
   clear c196
   (first | rw [c196b0] | (simp only [i64_w, i32_w]; rw [c196b0]) | skip)
   by_cases c203 : x64_5.toList = t246.toList
   ·rw [if_pos c203] at H
    have c203b0 : (x64_5.toList == t246.toList) = true := beq_iff_eq.mpr c203
    have c203b1 : (x64_5.toList != t246.toList) = false := bne_eq_false_iff_eq.mpr c203
    (try (have c203n1 : (!(x64_5.toList == t246.toList)) = false := c203b1))
    clear c203
    have H' := Aside0.mk H
    clear H
    go_wp2
    repeat (go_quiet (fail); try go_wp2)
    refine Met.intro (hJ_ _ _ ?mg_ ?rel)
    case mg_ => kernel_rfl
    case rel => exact ⟨_, H', ⟨by have := HJ7.out; have := HJ20.out; have := HJ95.out; have := HJ175.out; have := HK5.out; first | omega | exact Nat.le_refl _⟩, ⟨by repeat (first | (with_reducible first | exact HB.out | apply below_alloc | apply pw_below_drewN | apply below_drew1) | exact HB.out)⟩⟩
   ·rw [if_neg c203] at H
    have c203b0 : (x64_5.toList == t246.toList) = false := beq_eq_false_iff_ne.mpr c203
    have c203b1 : (x64_5.toList != t246.toList) = true := bne_iff_ne.mpr c203
    (try (have c203n1 : (!(x64_5.toList == t246.toList)) = true := c203b1))
    obtain rfl := Option.some.inj H
    go_wp2
    repeat (go_quiet (fail); try go_wp2)
    go_ret
    exact ⟨by first | rfl | (simp [errW_none, errW_some] <;> rfl) | (simp [*, errW_none, errW_some] <;> rfl), by repeat (first | (with_reducible first | exact HB.out | apply below_alloc | apply pw_below_drewN | apply below_drew1) | exact HB.out)⟩

def laws_FnRingsMoveOfAll.c20 : PSigma fun P0_ : Prop => Hole P0_ → laws_FnRingsMoveOfAll.c17.2.1 := by
 refine' ⟨_, fun HP0_ => _⟩
 rotate_left 1
 intro k a0 a1 A2 c2 l2 a3 a4 a5 a6 r w HR2 HC2 _ _ _ _ kj7 HJ7 t201 t202 A13 t205 t206 A14 t209 t210 A15 t211 t212 A16 t213 t214 A17 t215 t216 A18 t217 t218 t219 A19 t222 t223 t224 A20 w22 v203 w23 v207 w24 _ w25 _ w26 v220 w27 v225 HO204 HO208 HO221 HO226 _ _ _ HO_15 HO_27 _ kj20 HJ20 _ _ kj95 HJ95 t246 t247 A168 t248 t249 A169 t250 t251 A170 t252 t253 A171 t254 t255 A172 t256 t257 A173 t258 t259 A174 t260 t261 A175 w177 _ w178 _ w179 _ w180 _ nd _ _ HB kj175 HJ175 HC194 _ _ f_ wc hcut
 clear HC194
 try clear c1
 try clear p1
 try clear q1
 try clear hx1
 try clear c2
 try clear p2
 try clear q2
 try clear hx2
 try clear qi2
 try clear c3
 try clear c4
 try clear c5
 try clear c6
 try clear p6
 try clear c9
 try clear c9b0
 try clear c9b1
 try clear c10
 try clear c10b0
 try clear c10b1
 try clear c11
 try clear c11b0
 try clear c11b1
 try clear c12
 try clear c13
 try clear c14
 try clear c15
 try clear p15
 try clear q15
 try clear hx15
 try clear c16
 try clear c18
 try clear c19
 try clear c20
 try clear p23
 try clear q23
 try clear hx23
 try clear qi23
 try clear p24
 try clear q24
 try clear hx24
 try clear p26
 try clear q26
 try clear hx26
 try clear c28
 try clear c28b0
 try clear c28b1
 try clear c28b2
 try clear c30
 try clear c31
 try clear c31b0
 try clear c31b1
 try clear c31b2
 try clear c34
 try clear c34b0
 try clear c34b1
 try clear c35
 try clear c35b0
 try clear c35b1
 try clear c35b2
 try clear c38
 try clear c38b0
 try clear c38b1
 try clear c39
 try clear c39b0
 try clear c39b1
 try clear c39b2
 try clear c43
 try clear c44
 try clear c44b0
 try clear c44b1
 try clear c46
 try clear c46b0
 try clear c46b1
 try clear c46b2
 try clear c54
 try clear c54b0
 try clear c54b1
 try clear c54b2
 try clear c61
 try clear c61b0
 try clear c61b1
 try clear c61b2
 try clear p64
 try clear c68
 try clear c68b0
 try clear c68b1
 try clear c68b2
 try clear c95
 try clear c97
 try clear c101
 try clear c101b0
 try clear c101b1
 try clear c103
 try clear c103b0
 try clear c103b1
 try clear c105
 try clear c105b0
 try clear c105b1
 try clear c106
 try clear c106b0
 try clear c106b1
 try clear c107
 try clear c107b0
 try clear c110
 try clear c110b0
 try clear c112
 try clear c113
 try clear c113b0
 try clear c113b1
 try clear c114
 try clear c114b0
 try clear c114b1
 try clear c115
 try clear c115b0
 try clear c115b1
 try clear c115b2
 try clear c117
 try clear c117b0
 try clear c117b1
 try clear c122
 try clear c122b0
 try clear c123
 try clear c123b0
 try clear c123b1
 try clear c123b2
 try clear c125
 try clear c125b0
 try clear c125b1
 try clear c133
 try clear c135
 try clear c135b0
 try clear c136
 try clear c136b0
 try clear c137
 try clear c137b0
 try clear c145
 try clear c146
 try clear c147
 try clear c147b0
 try clear c147b1
 try clear c148
 try clear c150
 try clear c151
 try clear c151b0
 try clear c152
 try clear c152b0
 try clear c153
 try clear c153b0
 try clear p154
 try clear q154
 try clear hx154
 try clear c155
 try clear c155b0
 try clear p156
 try clear q156
 try clear hx156
 try clear c157
 try clear c157b0
 try clear c157b1
 try clear c157b2
 try clear c159
 try clear c159b0
 try clear c160
 try clear c160b0
 try clear c161
 try clear c161b0
 try clear c163
 try clear c164
 try clear c164b0
 try clear c164b1
 try clear c181
 try clear c181b0
 try clear c181b1
 try clear c181b2
 try clear c182
 try clear c182b0
 try clear c182b1
 try clear c183
 try clear c183b0
 try clear c183b1
 try clear c183b2
 try clear c184
 try clear c184b0
 try clear c184b1
 try clear c185
 try clear c186
 try clear c187
 try clear c187b0
 try clear c187b1
 try clear c187b2
 try clear c188
 try clear c188b0
 try clear c188b1
 try clear c189
 try clear c189b0
 try clear c189b1
 try clear c189b2
 try clear c190
 try clear c190b0
 try clear c190b1
 try clear c190b2
 try clear c191
 try clear c191b0
 try clear c191b1
 try clear c192
 try clear c192b0
 try clear c192b1
 try clear c192b2
 try clear c193
 try clear c195
 try clear c196
 try clear c196b0
 try clear c197
 try clear c197b0
 try clear c198
 try clear c198b0
 try clear c200
 try clear c203
 try clear c203b0
 try clear c203b1
 try clear hx234_0
 try clear hx235_0
 try clear hx243_0
 try clear hx262_0
 try clear p1
 try clear p15
 try clear p154
 try clear p156
 try clear p2
 try clear p23
 try clear p234
 try clear p235
 try clear p24
 try clear p243
 try clear p262
 try clear p6
 try clear p64
 try clear q1
 try clear q15
 try clear q154
 try clear q156
 try clear q2
 try clear q23
 try clear q234
 try clear q235
 try clear q24
 try clear q243
 try clear q262
 obtain ⟨kq, HA, HJ193, HB⟩ := hcut
 cases kq with
 | zero => exact absurd HA.out (by simp [laws_FnRingsMoveOfAll.j10])
 | succ kj193 =>
  have H := HA.out
  clear HA
  simp only [laws_FnRingsMoveOfAll.j10] at H
  by_cases c204 : t251 = true
  ·subst c204
   rw [if_pos rfl] at H
   have H1 := H
   clear H
   have H := H1
   clear H1
   by_cases c205 : 0 ≤ t250
   ·rw [if_pos c205] at H
    have c205b0 := eq_true c205
    have c205b1 : decide (0 ≤ t250) = true := decide_eq_true c205
    clear c205
    by_cases c206 : t250 ≤ (l2.length : Int)
    ·rw [if_pos c206] at H
     have c206b0 := eq_true c206
     have c206b1 : decide (t250 ≤ (l2.length : Int)) = true := decide_eq_true c206
     clear c206
     replace H := Option.bind_eq_some_iff.mp H
     obtain ⟨⟨t266, t267⟩, A2070, H⟩ := H
     try dsimp +instances only at H
     replace H := H
     have A207 := Aside0.mk A2070
     clear A2070
     by_cases c208 : t267 = true
     ·subst c208
      rw [if_pos rfl] at H
      have H1 := H
      clear H
      have H := H1
      clear H1
      by_cases c209 : t250 < (l2.length : Int)
      ·rw [if_pos c209] at H
       have c209b0 : decide (t250 < (l2.length : Int)) = true := decide_eq_true c209
       clear c209
       replace H := Option.bind_eq_some_iff.mp H
       obtain ⟨⟨t269, t270⟩, A2100, H⟩ := H
       try dsimp +instances only at H
       replace H := H
       have A210 := Aside0.mk A2100
       clear A2100
       by_cases c211 : t270 = true
       ·subst c211
        rw [if_pos rfl] at H
        have H1 := H
        clear H
        have H := H1
        clear H1
        obtain rfl := Option.some.inj H
        obtain ⟨i0212, hi0212, _, hsz212, _⟩ := info_parts info3
        obtain ⟨hcut212, hA212, hC212⟩ := print_take_of (P := Tryd.prog) (Value.int .i64) 0 22 3 .i64 Tryd.underlying22 hi0212 hsz212 A2 c2 l2 t250 (of_decide_eq_true (by first | (with_reducible assumption) | assumption)) (of_decide_eq_true (by first | (with_reducible assumption) | assumption)) HC2.out
        have HR265 := Aside0.mk (Kd.C_of_reads (h1 := fun _ => rfl) (hA212 _ (Kd.reads_of_C HR2.out)))
        have HC265 := Aside0.mk hC212
        clear hA212 hC212 hi0212 hsz212
        go_wp2_with (first | (go_at_call 20; (try rw [show (t250 : Int).toNat = (l2.take (t250 : Int).toNat).length from (by rw [List.length_take]; have h_ := of_decide_eq_true c206b1; omega)]); (with_reducible refine (impl_PlayMoves.calls kj193 a1 _ _ (l2.take (t250 : Int).toNat) t266 true _ ?side1 ?side2 A207.out).mono ?_); (case side1 => repeat (first | exact (Kd.C_below HR265.out HB.out) | (with_reducible refine Kd.C_alloc ?_ _) | (with_reducible refine Kd.C_drewN ?_ _) | (with_reducible refine Kd.C_drew ?_))); (case side2 => exact HC265.out); rintro e w213 ⟨rfl, hb⟩; have n0_ := Aside0.mk (below_step (by repeat (first | (with_reducible first | exact HB.out | apply below_alloc | apply pw_below_drewN | apply below_drew1) | exact HB.out)) hb); clear HB; have HB := n0_; clear n0_; (try clear hb); (try clear hb2); (try clear hk); (try clear hi); have p268 : 0 ≤ (t250 : Int) := of_decide_eq_true (by first | (with_reducible assumption) | assumption); have q268 : t250 < (l2.length : Int) := of_decide_eq_true (by first | (with_reducible assumption) | assumption); obtain ⟨ad268, e268, hx268_0⟩ := Kd.at_int HR2.out t250 p268 q268; cases e268; replace hx268_0 := (HB.out.cell (World.block_lt_of_cell? w _ hx268_0)).trans hx268_0; replace p268 := eq_true p268; replace q268 := eq_true q268) | (go_at_call 17; (with_reducible refine (impl_MoveRing.calls t266 (rd l2 t250) t269 true _ A210.out).mono ?_); rintro e w214 ⟨rfl, hb⟩; have n0_ := Aside0.mk (below_step (by repeat (first | (with_reducible first | exact HB.out | apply below_alloc | apply pw_below_drewN | apply below_drew1) | exact HB.out)) hb); clear HB; have HB := n0_; clear n0_; (try clear hb); (try clear hb2); (try clear hk); (try clear hi)))
        repeat (go_quiet (first | (go_at_call 20; (try rw [show (t250 : Int).toNat = (l2.take (t250 : Int).toNat).length from (by rw [List.length_take]; have h_ := of_decide_eq_true c206b1; omega)]); (with_reducible refine (impl_PlayMoves.calls kj193 a1 _ _ (l2.take (t250 : Int).toNat) t266 true _ ?side1 ?side2 A207.out).mono ?_); (case side1 => repeat (first | exact (Kd.C_below HR265.out HB.out) | (with_reducible refine Kd.C_alloc ?_ _) | (with_reducible refine Kd.C_drewN ?_ _) | (with_reducible refine Kd.C_drew ?_))); (case side2 => exact HC265.out); rintro e w213 ⟨rfl, hb⟩; have n0_ := Aside0.mk (below_step (by repeat (first | (with_reducible first | exact HB.out | apply below_alloc | apply pw_below_drewN | apply below_drew1) | exact HB.out)) hb); clear HB; have HB := n0_; clear n0_; (try clear hb); (try clear hb2); (try clear hk); (try clear hi); have p268 : 0 ≤ (t250 : Int) := of_decide_eq_true (by first | (with_reducible assumption) | assumption); have q268 : t250 < (l2.length : Int) := of_decide_eq_true (by first | (with_reducible assumption) | assumption); obtain ⟨ad268, e268, hx268_0⟩ := Kd.at_int HR2.out t250 p268 q268; cases e268; replace hx268_0 := (HB.out.cell (World.block_lt_of_cell? w _ hx268_0)).trans hx268_0; replace p268 := eq_true p268; replace q268 := eq_true q268) | (go_at_call 17; (with_reducible refine (impl_MoveRing.calls t266 (rd l2 t250) t269 true _ A210.out).mono ?_); rintro e w214 ⟨rfl, hb⟩; have n0_ := Aside0.mk (below_step (by repeat (first | (with_reducible first | exact HB.out | apply below_alloc | apply pw_below_drewN | apply below_drew1) | exact HB.out)) hb); clear HB; have HB := n0_; clear n0_; (try clear hb); (try clear hb2); (try clear hk); (try clear hi))); try go_wp2_with (first | (go_at_call 20; (try rw [show (t250 : Int).toNat = (l2.take (t250 : Int).toNat).length from (by rw [List.length_take]; have h_ := of_decide_eq_true c206b1; omega)]); (with_reducible refine (impl_PlayMoves.calls kj193 a1 _ _ (l2.take (t250 : Int).toNat) t266 true _ ?side1 ?side2 A207.out).mono ?_); (case side1 => repeat (first | exact (Kd.C_below HR265.out HB.out) | (with_reducible refine Kd.C_alloc ?_ _) | (with_reducible refine Kd.C_drewN ?_ _) | (with_reducible refine Kd.C_drew ?_))); (case side2 => exact HC265.out); rintro e w213 ⟨rfl, hb⟩; have n0_ := Aside0.mk (below_step (by repeat (first | (with_reducible first | exact HB.out | apply below_alloc | apply pw_below_drewN | apply below_drew1) | exact HB.out)) hb); clear HB; have HB := n0_; clear n0_; (try clear hb); (try clear hb2); (try clear hk); (try clear hi); have p268 : 0 ≤ (t250 : Int) := of_decide_eq_true (by first | (with_reducible assumption) | assumption); have q268 : t250 < (l2.length : Int) := of_decide_eq_true (by first | (with_reducible assumption) | assumption); obtain ⟨ad268, e268, hx268_0⟩ := Kd.at_int HR2.out t250 p268 q268; cases e268; replace hx268_0 := (HB.out.cell (World.block_lt_of_cell? w _ hx268_0)).trans hx268_0; replace p268 := eq_true p268; replace q268 := eq_true q268) | (go_at_call 17; (with_reducible refine (impl_MoveRing.calls t266 (rd l2 t250) t269 true _ A210.out).mono ?_); rintro e w214 ⟨rfl, hb⟩; have n0_ := Aside0.mk (below_step (by repeat (first | (with_reducible first | exact HB.out | apply below_alloc | apply pw_below_drewN | apply below_drew1) | exact HB.out)) hb); clear HB; have HB := n0_; clear n0_; (try clear hb); (try clear hb2); (try clear hk); (try clear hi))))
        go_ret
        exact ⟨by first | rfl | (simp [errW_none, errW_some] <;> rfl) | (simp [*, errW_none, errW_some] <;> rfl), by repeat (first | (with_reducible first | exact HB.out | apply below_alloc | apply pw_below_drewN | apply below_drew1) | exact HB.out)⟩
       ·replace c211 := Bool.eq_false_iff.mpr c211
        subst c211
        rw [if_neg (show ¬ (false = true) by decide)] at H
        have H1 := H
        clear H
        have H := H1
        clear H1
        by_cases c215 : t259 = true
        ·
         repeat revert ‹_›
         intro HP0_
         exact HP0_.out
        ·replace c215 := Bool.eq_false_iff.mpr c215
         subst c215
         rw [if_neg (show ¬ (false = true) by decide)] at H
         have H1 := H
         clear H
         have H := H1
         clear H1
         obtain rfl := Option.some.inj H
         obtain ⟨i0231, hi0231, _, hsz231, _⟩ := info_parts info3
         obtain ⟨hcut231, hA231, hC231⟩ := print_take_of (P := Tryd.prog) (Value.int .i64) 0 22 3 .i64 Tryd.underlying22 hi0231 hsz231 A2 c2 l2 t250 (of_decide_eq_true (by first | (with_reducible assumption) | assumption)) (of_decide_eq_true (by first | (with_reducible assumption) | assumption)) HC2.out
         have HR265 := Aside0.mk (Kd.C_of_reads (h1 := fun _ => rfl) (hA231 _ (Kd.reads_of_C HR2.out)))
         have HC265 := Aside0.mk hC231
         clear hA231 hC231 hi0231 hsz231
         go_wp2_with (first | (go_at_call 20; (try rw [show (t250 : Int).toNat = (l2.take (t250 : Int).toNat).length from (by rw [List.length_take]; have h_ := of_decide_eq_true c206b1; omega)]); (with_reducible refine (impl_PlayMoves.calls kj193 a1 _ _ (l2.take (t250 : Int).toNat) t266 true _ ?side1 ?side2 A207.out).mono ?_); (case side1 => repeat (first | exact (Kd.C_below HR265.out HB.out) | (with_reducible refine Kd.C_alloc ?_ _) | (with_reducible refine Kd.C_drewN ?_ _) | (with_reducible refine Kd.C_drew ?_))); (case side2 => exact HC265.out); rintro e w232 ⟨rfl, hb⟩; have n0_ := Aside0.mk (below_step (by repeat (first | (with_reducible first | exact HB.out | apply below_alloc | apply pw_below_drewN | apply below_drew1) | exact HB.out)) hb); clear HB; have HB := n0_; clear n0_; (try clear hb); (try clear hb2); (try clear hk); (try clear hi); have p268 : 0 ≤ (t250 : Int) := of_decide_eq_true (by first | (with_reducible assumption) | assumption); have q268 : t250 < (l2.length : Int) := of_decide_eq_true (by first | (with_reducible assumption) | assumption); obtain ⟨ad268, e268, hx268_0⟩ := Kd.at_int HR2.out t250 p268 q268; cases e268; replace hx268_0 := (HB.out.cell (World.block_lt_of_cell? w _ hx268_0)).trans hx268_0; replace p268 := eq_true p268; replace q268 := eq_true q268) | (go_at_call 17; (with_reducible refine (impl_MoveRing.calls t266 (rd l2 t250) t269 false _ A210.out).mono ?_); rintro e w233 ⟨rfl, hb⟩; have n0_ := Aside0.mk (below_step (by repeat (first | (with_reducible first | exact HB.out | apply below_alloc | apply pw_below_drewN | apply below_drew1) | exact HB.out)) hb); clear HB; have HB := n0_; clear n0_; (try clear hb); (try clear hb2); (try clear hk); (try clear hi)))
         repeat (go_quiet (first | (go_at_call 20; (try rw [show (t250 : Int).toNat = (l2.take (t250 : Int).toNat).length from (by rw [List.length_take]; have h_ := of_decide_eq_true c206b1; omega)]); (with_reducible refine (impl_PlayMoves.calls kj193 a1 _ _ (l2.take (t250 : Int).toNat) t266 true _ ?side1 ?side2 A207.out).mono ?_); (case side1 => repeat (first | exact (Kd.C_below HR265.out HB.out) | (with_reducible refine Kd.C_alloc ?_ _) | (with_reducible refine Kd.C_drewN ?_ _) | (with_reducible refine Kd.C_drew ?_))); (case side2 => exact HC265.out); rintro e w232 ⟨rfl, hb⟩; have n0_ := Aside0.mk (below_step (by repeat (first | (with_reducible first | exact HB.out | apply below_alloc | apply pw_below_drewN | apply below_drew1) | exact HB.out)) hb); clear HB; have HB := n0_; clear n0_; (try clear hb); (try clear hb2); (try clear hk); (try clear hi); have p268 : 0 ≤ (t250 : Int) := of_decide_eq_true (by first | (with_reducible assumption) | assumption); have q268 : t250 < (l2.length : Int) := of_decide_eq_true (by first | (with_reducible assumption) | assumption); obtain ⟨ad268, e268, hx268_0⟩ := Kd.at_int HR2.out t250 p268 q268; cases e268; replace hx268_0 := (HB.out.cell (World.block_lt_of_cell? w _ hx268_0)).trans hx268_0; replace p268 := eq_true p268; replace q268 := eq_true q268) | (go_at_call 17; (with_reducible refine (impl_MoveRing.calls t266 (rd l2 t250) t269 false _ A210.out).mono ?_); rintro e w233 ⟨rfl, hb⟩; have n0_ := Aside0.mk (below_step (by repeat (first | (with_reducible first | exact HB.out | apply below_alloc | apply pw_below_drewN | apply below_drew1) | exact HB.out)) hb); clear HB; have HB := n0_; clear n0_; (try clear hb); (try clear hb2); (try clear hk); (try clear hi))); try go_wp2_with (first | (go_at_call 20; (try rw [show (t250 : Int).toNat = (l2.take (t250 : Int).toNat).length from (by rw [List.length_take]; have h_ := of_decide_eq_true c206b1; omega)]); (with_reducible refine (impl_PlayMoves.calls kj193 a1 _ _ (l2.take (t250 : Int).toNat) t266 true _ ?side1 ?side2 A207.out).mono ?_); (case side1 => repeat (first | exact (Kd.C_below HR265.out HB.out) | (with_reducible refine Kd.C_alloc ?_ _) | (with_reducible refine Kd.C_drewN ?_ _) | (with_reducible refine Kd.C_drew ?_))); (case side2 => exact HC265.out); rintro e w232 ⟨rfl, hb⟩; have n0_ := Aside0.mk (below_step (by repeat (first | (with_reducible first | exact HB.out | apply below_alloc | apply pw_below_drewN | apply below_drew1) | exact HB.out)) hb); clear HB; have HB := n0_; clear n0_; (try clear hb); (try clear hb2); (try clear hk); (try clear hi); have p268 : 0 ≤ (t250 : Int) := of_decide_eq_true (by first | (with_reducible assumption) | assumption); have q268 : t250 < (l2.length : Int) := of_decide_eq_true (by first | (with_reducible assumption) | assumption); obtain ⟨ad268, e268, hx268_0⟩ := Kd.at_int HR2.out t250 p268 q268; cases e268; replace hx268_0 := (HB.out.cell (World.block_lt_of_cell? w _ hx268_0)).trans hx268_0; replace p268 := eq_true p268; replace q268 := eq_true q268) | (go_at_call 17; (with_reducible refine (impl_MoveRing.calls t266 (rd l2 t250) t269 false _ A210.out).mono ?_); rintro e w233 ⟨rfl, hb⟩; have n0_ := Aside0.mk (below_step (by repeat (first | (with_reducible first | exact HB.out | apply below_alloc | apply pw_below_drewN | apply below_drew1) | exact HB.out)) hb); clear HB; have HB := n0_; clear n0_; (try clear hb); (try clear hb2); (try clear hk); (try clear hi))))
         go_ret
         exact ⟨by first | rfl | (simp [errW_none, errW_some] <;> rfl) | (simp [*, errW_none, errW_some] <;> rfl), by repeat (first | (with_reducible first | exact HB.out | apply below_alloc | apply pw_below_drewN | apply below_drew1) | exact HB.out)⟩
      ·rw [if_neg c209] at H
       exact absurd H (by simp)
     ·replace c208 := Bool.eq_false_iff.mpr c208
      subst c208
      rw [if_neg (show ¬ (false = true) by decide)] at H
      have H1 := H
      clear H
      have H := H1
      clear H1
      obtain rfl := Option.some.inj H
      obtain ⟨i0234, hi0234, _, hsz234, _⟩ := info_parts info3
      obtain ⟨hcut234, hA234, hC234⟩ := print_take_of (P := Tryd.prog) (Value.int .i64) 0 22 3 .i64 Tryd.underlying22 hi0234 hsz234 A2 c2 l2 t250 (of_decide_eq_true (by first | (with_reducible assumption) | assumption)) (of_decide_eq_true (by first | (with_reducible assumption) | assumption)) HC2.out
      have HR265 := Aside0.mk (Kd.C_of_reads (h1 := fun _ => rfl) (hA234 _ (Kd.reads_of_C HR2.out)))
      have HC265 := Aside0.mk hC234
      clear hA234 hC234 hi0234 hsz234
      go_wp2_with (first | (go_at_call 20; (try rw [show (t250 : Int).toNat = (l2.take (t250 : Int).toNat).length from (by rw [List.length_take]; have h_ := of_decide_eq_true c206b1; omega)]); (with_reducible refine (impl_PlayMoves.calls kj193 a1 _ _ (l2.take (t250 : Int).toNat) t266 false _ ?side1 ?side2 A207.out).mono ?_); (case side1 => repeat (first | exact (Kd.C_below HR265.out HB.out) | (with_reducible refine Kd.C_alloc ?_ _) | (with_reducible refine Kd.C_drewN ?_ _) | (with_reducible refine Kd.C_drew ?_))); (case side2 => exact HC265.out); rintro e w235 ⟨rfl, hb⟩; have n0_ := Aside0.mk (below_step (by repeat (first | (with_reducible first | exact HB.out | apply below_alloc | apply pw_below_drewN | apply below_drew1) | exact HB.out)) hb); clear HB; have HB := n0_; clear n0_; (try clear hb); (try clear hb2); (try clear hk); (try clear hi)))
      repeat (go_quiet (first | (go_at_call 20; (try rw [show (t250 : Int).toNat = (l2.take (t250 : Int).toNat).length from (by rw [List.length_take]; have h_ := of_decide_eq_true c206b1; omega)]); (with_reducible refine (impl_PlayMoves.calls kj193 a1 _ _ (l2.take (t250 : Int).toNat) t266 false _ ?side1 ?side2 A207.out).mono ?_); (case side1 => repeat (first | exact (Kd.C_below HR265.out HB.out) | (with_reducible refine Kd.C_alloc ?_ _) | (with_reducible refine Kd.C_drewN ?_ _) | (with_reducible refine Kd.C_drew ?_))); (case side2 => exact HC265.out); rintro e w235 ⟨rfl, hb⟩; have n0_ := Aside0.mk (below_step (by repeat (first | (with_reducible first | exact HB.out | apply below_alloc | apply pw_below_drewN | apply below_drew1) | exact HB.out)) hb); clear HB; have HB := n0_; clear n0_; (try clear hb); (try clear hb2); (try clear hk); (try clear hi))); try go_wp2_with (first | (go_at_call 20; (try rw [show (t250 : Int).toNat = (l2.take (t250 : Int).toNat).length from (by rw [List.length_take]; have h_ := of_decide_eq_true c206b1; omega)]); (with_reducible refine (impl_PlayMoves.calls kj193 a1 _ _ (l2.take (t250 : Int).toNat) t266 false _ ?side1 ?side2 A207.out).mono ?_); (case side1 => repeat (first | exact (Kd.C_below HR265.out HB.out) | (with_reducible refine Kd.C_alloc ?_ _) | (with_reducible refine Kd.C_drewN ?_ _) | (with_reducible refine Kd.C_drew ?_))); (case side2 => exact HC265.out); rintro e w235 ⟨rfl, hb⟩; have n0_ := Aside0.mk (below_step (by repeat (first | (with_reducible first | exact HB.out | apply below_alloc | apply pw_below_drewN | apply below_drew1) | exact HB.out)) hb); clear HB; have HB := n0_; clear n0_; (try clear hb); (try clear hb2); (try clear hk); (try clear hi))))
      go_ret
      exact ⟨by first | rfl | (simp [errW_none, errW_some] <;> rfl) | (simp [*, errW_none, errW_some] <;> rfl), by repeat (first | (with_reducible first | exact HB.out | apply below_alloc | apply pw_below_drewN | apply below_drew1) | exact HB.out)⟩
    ·rw [if_neg c206] at H
     exact absurd H (by simp)
   ·rw [if_neg c205] at H
    exact absurd H (by simp)
  ·replace c204 := Bool.eq_false_iff.mpr c204
   subst c204
   rw [if_neg (show ¬ (false = true) by decide)] at H
   have H1 := H
   clear H
   have H := H1
   clear H1
   by_cases c236 : t259 = true
   ·subst c236
    rw [if_pos rfl] at H
    have H1 := H
    clear H
    have H := H1
    clear H1
    replace H := Option.bind_eq_some_iff.mp H
    obtain ⟨⟨t273, t274⟩, A2370, H⟩ := H
    try dsimp +instances only at H
    replace H := H
    have A237 := Aside0.mk A2370
    clear A2370
    by_cases c238 : t274 = true
    ·subst c238
     rw [if_pos rfl] at H
     have H1 := H
     clear H
     have H := H1
     clear H1
     by_cases c239 : t273 = a6
     ·rw [if_pos c239] at H
      have c239b0 : (t273 == a6) = true := beq_iff_eq.mpr c239
      have c239b1 : (t273 != a6) = false := bne_eq_false_iff_eq.mpr c239
      clear c239
      obtain rfl := Option.some.inj H
      go_wp2_with (first | (go_at_call 6; (with_reducible refine (impl_NumberOfState.calls kj193 t258 t273 true _ A237.out).mono ?_); rintro e w240 ⟨rfl, hb⟩; have n0_ := Aside0.mk (below_step (by repeat (first | (with_reducible first | exact HB.out | apply below_alloc | apply pw_below_drewN | apply below_drew1) | exact HB.out)) hb); clear HB; have HB := n0_; clear n0_; (try clear hb); (try clear hb2); (try clear hk); (try clear hi)))
      repeat (go_quiet (first | (go_at_call 6; (with_reducible refine (impl_NumberOfState.calls kj193 t258 t273 true _ A237.out).mono ?_); rintro e w240 ⟨rfl, hb⟩; have n0_ := Aside0.mk (below_step (by repeat (first | (with_reducible first | exact HB.out | apply below_alloc | apply pw_below_drewN | apply below_drew1) | exact HB.out)) hb); clear HB; have HB := n0_; clear n0_; (try clear hb); (try clear hb2); (try clear hk); (try clear hi))); try go_wp2_with (first | (go_at_call 6; (with_reducible refine (impl_NumberOfState.calls kj193 t258 t273 true _ A237.out).mono ?_); rintro e w240 ⟨rfl, hb⟩; have n0_ := Aside0.mk (below_step (by repeat (first | (with_reducible first | exact HB.out | apply below_alloc | apply pw_below_drewN | apply below_drew1) | exact HB.out)) hb); clear HB; have HB := n0_; clear n0_; (try clear hb); (try clear hb2); (try clear hk); (try clear hi))))
      go_ret
      exact ⟨by first | rfl | (simp [errW_none, errW_some] <;> rfl) | (simp [*, errW_none, errW_some] <;> rfl), by repeat (first | (with_reducible first | exact HB.out | apply below_alloc | apply pw_below_drewN | apply below_drew1) | exact HB.out)⟩
     ·rw [if_neg c239] at H
      have c239b0 : (t273 == a6) = false := beq_eq_false_iff_ne.mpr c239
      have c239b1 : (t273 != a6) = true := bne_iff_ne.mpr c239
      obtain rfl := Option.some.inj H
      go_wp2_with (first | (go_at_call 6; (with_reducible refine (impl_NumberOfState.calls kj193 t258 t273 true _ A237.out).mono ?_); rintro e w241 ⟨rfl, hb⟩; have n0_ := Aside0.mk (below_step (by repeat (first | (with_reducible first | exact HB.out | apply below_alloc | apply pw_below_drewN | apply below_drew1) | exact HB.out)) hb); clear HB; have HB := n0_; clear n0_; (try clear hb); (try clear hb2); (try clear hk); (try clear hi)))
      repeat (go_quiet (first | (go_at_call 6; (with_reducible refine (impl_NumberOfState.calls kj193 t258 t273 true _ A237.out).mono ?_); rintro e w241 ⟨rfl, hb⟩; have n0_ := Aside0.mk (below_step (by repeat (first | (with_reducible first | exact HB.out | apply below_alloc | apply pw_below_drewN | apply below_drew1) | exact HB.out)) hb); clear HB; have HB := n0_; clear n0_; (try clear hb); (try clear hb2); (try clear hk); (try clear hi))); try go_wp2_with (first | (go_at_call 6; (with_reducible refine (impl_NumberOfState.calls kj193 t258 t273 true _ A237.out).mono ?_); rintro e w241 ⟨rfl, hb⟩; have n0_ := Aside0.mk (below_step (by repeat (first | (with_reducible first | exact HB.out | apply below_alloc | apply pw_below_drewN | apply below_drew1) | exact HB.out)) hb); clear HB; have HB := n0_; clear n0_; (try clear hb); (try clear hb2); (try clear hk); (try clear hi))))
      go_ret
      exact ⟨by first | rfl | (simp [errW_none, errW_some] <;> rfl) | (simp [*, errW_none, errW_some] <;> rfl), by repeat (first | (with_reducible first | exact HB.out | apply below_alloc | apply pw_below_drewN | apply below_drew1) | exact HB.out)⟩
    ·replace c238 := Bool.eq_false_iff.mpr c238
     subst c238
     rw [if_neg (show ¬ (false = true) by decide)] at H
     have H1 := H
     clear H
     have H := H1
     clear H1
     obtain rfl := Option.some.inj H
     go_wp2_with (first | (go_at_call 6; (with_reducible refine (impl_NumberOfState.calls kj193 t258 t273 false _ A237.out).mono ?_); rintro e w242 ⟨rfl, hb⟩; have n0_ := Aside0.mk (below_step (by repeat (first | (with_reducible first | exact HB.out | apply below_alloc | apply pw_below_drewN | apply below_drew1) | exact HB.out)) hb); clear HB; have HB := n0_; clear n0_; (try clear hb); (try clear hb2); (try clear hk); (try clear hi)))
     repeat (go_quiet (first | (go_at_call 6; (with_reducible refine (impl_NumberOfState.calls kj193 t258 t273 false _ A237.out).mono ?_); rintro e w242 ⟨rfl, hb⟩; have n0_ := Aside0.mk (below_step (by repeat (first | (with_reducible first | exact HB.out | apply below_alloc | apply pw_below_drewN | apply below_drew1) | exact HB.out)) hb); clear HB; have HB := n0_; clear n0_; (try clear hb); (try clear hb2); (try clear hk); (try clear hi))); try go_wp2_with (first | (go_at_call 6; (with_reducible refine (impl_NumberOfState.calls kj193 t258 t273 false _ A237.out).mono ?_); rintro e w242 ⟨rfl, hb⟩; have n0_ := Aside0.mk (below_step (by repeat (first | (with_reducible first | exact HB.out | apply below_alloc | apply pw_below_drewN | apply below_drew1) | exact HB.out)) hb); clear HB; have HB := n0_; clear n0_; (try clear hb); (try clear hb2); (try clear hk); (try clear hi))))
     go_ret
     exact ⟨by first | rfl | (simp [errW_none, errW_some] <;> rfl) | (simp [*, errW_none, errW_some] <;> rfl), by repeat (first | (with_reducible first | exact HB.out | apply below_alloc | apply pw_below_drewN | apply below_drew1) | exact HB.out)⟩
   ·replace c236 := Bool.eq_false_iff.mpr c236
    subst c236
    rw [if_neg (show ¬ (false = true) by decide)] at H
    have H1 := H
    clear H
    have H := H1
    clear H1
    obtain rfl := Option.some.inj H
    go_wp2
    repeat (go_quiet (fail); try go_wp2)
    go_ret
    exact ⟨by first | rfl | (simp [errW_none, errW_some] <;> rfl) | (simp [*, errW_none, errW_some] <;> rfl), by repeat (first | (with_reducible first | exact HB.out | apply below_alloc | apply pw_below_drewN | apply below_drew1) | exact HB.out)⟩

theorem laws_FnRingsMoveOfAll.c21 : laws_FnRingsMoveOfAll.c20.1 := by
 intro k a0 a1 A2 c2 l2 a3 a4 a5 a6 r w HR2 HC2 _ _ _ _ kj7 HJ7 t201 t202 A13 t205 t206 A14 t209 t210 A15 t211 t212 A16 t213 t214 A17 t215 t216 A18 t217 t218 t219 A19 t222 t223 t224 A20 w22 v203 w23 v207 w24 _ w25 _ w26 v220 w27 v225 HO204 HO208 HO221 HO226 _ _ _ HO_15 HO_27 _ kj20 HJ20 _ _ kj95 HJ95 t246 t247 A168 t248 t249 A169 t250 t252 t253 A171 t254 t255 A172 t256 t257 A173 t258 t259 A174 t260 t261 A175 w177 _ w178 _ w179 _ w180 _ nd _ _ _ kj175 HJ175 _ _ f_ wc HB kj193 HJ193 A170 c205b0 c205b1 c206b0 c206b1 t266 A207 c209b0 t269 A210 H c215
 subst c215
 rw [if_pos rfl] at H
 have H1 := H
 clear H
 have H := H1
 clear H1
 replace H := Option.bind_eq_some_iff.mp H
 obtain ⟨⟨t271, t272⟩, A2160, H⟩ := H
 try dsimp +instances only at H
 replace H := H
 have A216 := Aside0.mk A2160
 clear A2160
 by_cases c217 : t272 = true
 ·subst c217
  rw [if_pos rfl] at H
  have H1 := H
  clear H
  have H := H1
  clear H1
  by_cases c218 : t271 = a6
  ·rw [if_pos c218] at H
   have c218b0 : (t271 == a6) = true := beq_iff_eq.mpr c218
   have c218b1 : (t271 != a6) = false := bne_eq_false_iff_eq.mpr c218
   clear c218
   obtain rfl := Option.some.inj H
   obtain ⟨i0219, hi0219, _, hsz219, _⟩ := info_parts info3
   obtain ⟨hcut219, hA219, hC219⟩ := print_take_of (P := Tryd.prog) (Value.int .i64) 0 22 3 .i64 Tryd.underlying22 hi0219 hsz219 A2 c2 l2 t250 (of_decide_eq_true (by first | (with_reducible assumption) | assumption)) (of_decide_eq_true (by first | (with_reducible assumption) | assumption)) HC2.out
   have HR265 := Aside0.mk (Kd.C_of_reads (h1 := fun _ => rfl) (hA219 _ (Kd.reads_of_C HR2.out)))
   have HC265 := Aside0.mk hC219
   clear hA219 hC219 hi0219 hsz219
   go_wp2_with (first | (go_at_call 20; (try rw [show (t250 : Int).toNat = (l2.take (t250 : Int).toNat).length from (by rw [List.length_take]; have h_ := of_decide_eq_true c206b1; omega)]); (with_reducible refine (impl_PlayMoves.calls kj193 a1 _ _ (l2.take (t250 : Int).toNat) t266 true _ ?side1 ?side2 A207.out).mono ?_); (case side1 => repeat (first | exact (Kd.C_below HR265.out HB.out) | (with_reducible refine Kd.C_alloc ?_ _) | (with_reducible refine Kd.C_drewN ?_ _) | (with_reducible refine Kd.C_drew ?_))); (case side2 => exact HC265.out); rintro e w220 ⟨rfl, hb⟩; have n0_ := Aside0.mk (below_step (by repeat (first | (with_reducible first | exact HB.out | apply below_alloc | apply pw_below_drewN | apply below_drew1) | exact HB.out)) hb); clear HB; have HB := n0_; clear n0_; (try clear hb); (try clear hb2); (try clear hk); (try clear hi); have p268 : 0 ≤ (t250 : Int) := of_decide_eq_true (by first | (with_reducible assumption) | assumption); have q268 : t250 < (l2.length : Int) := of_decide_eq_true (by first | (with_reducible assumption) | assumption); obtain ⟨ad268, e268, hx268_0⟩ := Kd.at_int HR2.out t250 p268 q268; cases e268; replace hx268_0 := (HB.out.cell (World.block_lt_of_cell? w _ hx268_0)).trans hx268_0; replace p268 := eq_true p268; replace q268 := eq_true q268) | (go_at_call 17; (with_reducible refine (impl_MoveRing.calls t266 (rd l2 t250) t269 false _ A210.out).mono ?_); rintro e w221 ⟨rfl, hb⟩; have n0_ := Aside0.mk (below_step (by repeat (first | (with_reducible first | exact HB.out | apply below_alloc | apply pw_below_drewN | apply below_drew1) | exact HB.out)) hb); clear HB; have HB := n0_; clear n0_; (try clear hb); (try clear hb2); (try clear hk); (try clear hi)) | (go_at_call 6; (with_reducible refine (impl_NumberOfState.calls kj193 t258 t271 true _ A216.out).mono ?_); rintro e w222 ⟨rfl, hb⟩; have n0_ := Aside0.mk (below_step (by repeat (first | (with_reducible first | exact HB.out | apply below_alloc | apply pw_below_drewN | apply below_drew1) | exact HB.out)) hb); clear HB; have HB := n0_; clear n0_; (try clear hb); (try clear hb2); (try clear hk); (try clear hi)))
   repeat (go_quiet (first | (go_at_call 20; (try rw [show (t250 : Int).toNat = (l2.take (t250 : Int).toNat).length from (by rw [List.length_take]; have h_ := of_decide_eq_true c206b1; omega)]); (with_reducible refine (impl_PlayMoves.calls kj193 a1 _ _ (l2.take (t250 : Int).toNat) t266 true _ ?side1 ?side2 A207.out).mono ?_); (case side1 => repeat (first | exact (Kd.C_below HR265.out HB.out) | (with_reducible refine Kd.C_alloc ?_ _) | (with_reducible refine Kd.C_drewN ?_ _) | (with_reducible refine Kd.C_drew ?_))); (case side2 => exact HC265.out); rintro e w220 ⟨rfl, hb⟩; have n0_ := Aside0.mk (below_step (by repeat (first | (with_reducible first | exact HB.out | apply below_alloc | apply pw_below_drewN | apply below_drew1) | exact HB.out)) hb); clear HB; have HB := n0_; clear n0_; (try clear hb); (try clear hb2); (try clear hk); (try clear hi); have p268 : 0 ≤ (t250 : Int) := of_decide_eq_true (by first | (with_reducible assumption) | assumption); have q268 : t250 < (l2.length : Int) := of_decide_eq_true (by first | (with_reducible assumption) | assumption); obtain ⟨ad268, e268, hx268_0⟩ := Kd.at_int HR2.out t250 p268 q268; cases e268; replace hx268_0 := (HB.out.cell (World.block_lt_of_cell? w _ hx268_0)).trans hx268_0; replace p268 := eq_true p268; replace q268 := eq_true q268) | (go_at_call 17; (with_reducible refine (impl_MoveRing.calls t266 (rd l2 t250) t269 false _ A210.out).mono ?_); rintro e w221 ⟨rfl, hb⟩; have n0_ := Aside0.mk (below_step (by repeat (first | (with_reducible first | exact HB.out | apply below_alloc | apply pw_below_drewN | apply below_drew1) | exact HB.out)) hb); clear HB; have HB := n0_; clear n0_; (try clear hb); (try clear hb2); (try clear hk); (try clear hi)) | (go_at_call 6; (with_reducible refine (impl_NumberOfState.calls kj193 t258 t271 true _ A216.out).mono ?_); rintro e w222 ⟨rfl, hb⟩; have n0_ := Aside0.mk (below_step (by repeat (first | (with_reducible first | exact HB.out | apply below_alloc | apply pw_below_drewN | apply below_drew1) | exact HB.out)) hb); clear HB; have HB := n0_; clear n0_; (try clear hb); (try clear hb2); (try clear hk); (try clear hi))); try go_wp2_with (first | (go_at_call 20; (try rw [show (t250 : Int).toNat = (l2.take (t250 : Int).toNat).length from (by rw [List.length_take]; have h_ := of_decide_eq_true c206b1; omega)]); (with_reducible refine (impl_PlayMoves.calls kj193 a1 _ _ (l2.take (t250 : Int).toNat) t266 true _ ?side1 ?side2 A207.out).mono ?_); (case side1 => repeat (first | exact (Kd.C_below HR265.out HB.out) | (with_reducible refine Kd.C_alloc ?_ _) | (with_reducible refine Kd.C_drewN ?_ _) | (with_reducible refine Kd.C_drew ?_))); (case side2 => exact HC265.out); rintro e w220 ⟨rfl, hb⟩; have n0_ := Aside0.mk (below_step (by repeat (first | (with_reducible first | exact HB.out | apply below_alloc | apply pw_below_drewN | apply below_drew1) | exact HB.out)) hb); clear HB; have HB := n0_; clear n0_; (try clear hb); (try clear hb2); (try clear hk); (try clear hi); have p268 : 0 ≤ (t250 : Int) := of_decide_eq_true (by first | (with_reducible assumption) | assumption); have q268 : t250 < (l2.length : Int) := of_decide_eq_true (by first | (with_reducible assumption) | assumption); obtain ⟨ad268, e268, hx268_0⟩ := Kd.at_int HR2.out t250 p268 q268; cases e268; replace hx268_0 := (HB.out.cell (World.block_lt_of_cell? w _ hx268_0)).trans hx268_0; replace p268 := eq_true p268; replace q268 := eq_true q268) | (go_at_call 17; (with_reducible refine (impl_MoveRing.calls t266 (rd l2 t250) t269 false _ A210.out).mono ?_); rintro e w221 ⟨rfl, hb⟩; have n0_ := Aside0.mk (below_step (by repeat (first | (with_reducible first | exact HB.out | apply below_alloc | apply pw_below_drewN | apply below_drew1) | exact HB.out)) hb); clear HB; have HB := n0_; clear n0_; (try clear hb); (try clear hb2); (try clear hk); (try clear hi)) | (go_at_call 6; (with_reducible refine (impl_NumberOfState.calls kj193 t258 t271 true _ A216.out).mono ?_); rintro e w222 ⟨rfl, hb⟩; have n0_ := Aside0.mk (below_step (by repeat (first | (with_reducible first | exact HB.out | apply below_alloc | apply pw_below_drewN | apply below_drew1) | exact HB.out)) hb); clear HB; have HB := n0_; clear n0_; (try clear hb); (try clear hb2); (try clear hk); (try clear hi))))
   go_ret
   exact ⟨by first | rfl | (simp [errW_none, errW_some] <;> rfl) | (simp [*, errW_none, errW_some] <;> rfl), by repeat (first | (with_reducible first | exact HB.out | apply below_alloc | apply pw_below_drewN | apply below_drew1) | exact HB.out)⟩
  ·rw [if_neg c218] at H
   have c218b0 : (t271 == a6) = false := beq_eq_false_iff_ne.mpr c218
   have c218b1 : (t271 != a6) = true := bne_iff_ne.mpr c218
   obtain rfl := Option.some.inj H
   obtain ⟨i0223, hi0223, _, hsz223, _⟩ := info_parts info3
   obtain ⟨hcut223, hA223, hC223⟩ := print_take_of (P := Tryd.prog) (Value.int .i64) 0 22 3 .i64 Tryd.underlying22 hi0223 hsz223 A2 c2 l2 t250 (of_decide_eq_true (by first | (with_reducible assumption) | assumption)) (of_decide_eq_true (by first | (with_reducible assumption) | assumption)) HC2.out
   have HR265 := Aside0.mk (Kd.C_of_reads (h1 := fun _ => rfl) (hA223 _ (Kd.reads_of_C HR2.out)))
   have HC265 := Aside0.mk hC223
   clear hA223 hC223 hi0223 hsz223
   go_wp2_with (first | (go_at_call 20; (try rw [show (t250 : Int).toNat = (l2.take (t250 : Int).toNat).length from (by rw [List.length_take]; have h_ := of_decide_eq_true c206b1; omega)]); (with_reducible refine (impl_PlayMoves.calls kj193 a1 _ _ (l2.take (t250 : Int).toNat) t266 true _ ?side1 ?side2 A207.out).mono ?_); (case side1 => repeat (first | exact (Kd.C_below HR265.out HB.out) | (with_reducible refine Kd.C_alloc ?_ _) | (with_reducible refine Kd.C_drewN ?_ _) | (with_reducible refine Kd.C_drew ?_))); (case side2 => exact HC265.out); rintro e w224 ⟨rfl, hb⟩; have n0_ := Aside0.mk (below_step (by repeat (first | (with_reducible first | exact HB.out | apply below_alloc | apply pw_below_drewN | apply below_drew1) | exact HB.out)) hb); clear HB; have HB := n0_; clear n0_; (try clear hb); (try clear hb2); (try clear hk); (try clear hi); have p268 : 0 ≤ (t250 : Int) := of_decide_eq_true (by first | (with_reducible assumption) | assumption); have q268 : t250 < (l2.length : Int) := of_decide_eq_true (by first | (with_reducible assumption) | assumption); obtain ⟨ad268, e268, hx268_0⟩ := Kd.at_int HR2.out t250 p268 q268; cases e268; replace hx268_0 := (HB.out.cell (World.block_lt_of_cell? w _ hx268_0)).trans hx268_0; replace p268 := eq_true p268; replace q268 := eq_true q268) | (go_at_call 17; (with_reducible refine (impl_MoveRing.calls t266 (rd l2 t250) t269 false _ A210.out).mono ?_); rintro e w225 ⟨rfl, hb⟩; have n0_ := Aside0.mk (below_step (by repeat (first | (with_reducible first | exact HB.out | apply below_alloc | apply pw_below_drewN | apply below_drew1) | exact HB.out)) hb); clear HB; have HB := n0_; clear n0_; (try clear hb); (try clear hb2); (try clear hk); (try clear hi)) | (go_at_call 6; (with_reducible refine (impl_NumberOfState.calls kj193 t258 t271 true _ A216.out).mono ?_); rintro e w226 ⟨rfl, hb⟩; have n0_ := Aside0.mk (below_step (by repeat (first | (with_reducible first | exact HB.out | apply below_alloc | apply pw_below_drewN | apply below_drew1) | exact HB.out)) hb); clear HB; have HB := n0_; clear n0_; (try clear hb); (try clear hb2); (try clear hk); (try clear hi)))
   repeat (go_quiet (first | (go_at_call 20; (try rw [show (t250 : Int).toNat = (l2.take (t250 : Int).toNat).length from (by rw [List.length_take]; have h_ := of_decide_eq_true c206b1; omega)]); (with_reducible refine (impl_PlayMoves.calls kj193 a1 _ _ (l2.take (t250 : Int).toNat) t266 true _ ?side1 ?side2 A207.out).mono ?_); (case side1 => repeat (first | exact (Kd.C_below HR265.out HB.out) | (with_reducible refine Kd.C_alloc ?_ _) | (with_reducible refine Kd.C_drewN ?_ _) | (with_reducible refine Kd.C_drew ?_))); (case side2 => exact HC265.out); rintro e w224 ⟨rfl, hb⟩; have n0_ := Aside0.mk (below_step (by repeat (first | (with_reducible first | exact HB.out | apply below_alloc | apply pw_below_drewN | apply below_drew1) | exact HB.out)) hb); clear HB; have HB := n0_; clear n0_; (try clear hb); (try clear hb2); (try clear hk); (try clear hi); have p268 : 0 ≤ (t250 : Int) := of_decide_eq_true (by first | (with_reducible assumption) | assumption); have q268 : t250 < (l2.length : Int) := of_decide_eq_true (by first | (with_reducible assumption) | assumption); obtain ⟨ad268, e268, hx268_0⟩ := Kd.at_int HR2.out t250 p268 q268; cases e268; replace hx268_0 := (HB.out.cell (World.block_lt_of_cell? w _ hx268_0)).trans hx268_0; replace p268 := eq_true p268; replace q268 := eq_true q268) | (go_at_call 17; (with_reducible refine (impl_MoveRing.calls t266 (rd l2 t250) t269 false _ A210.out).mono ?_); rintro e w225 ⟨rfl, hb⟩; have n0_ := Aside0.mk (below_step (by repeat (first | (with_reducible first | exact HB.out | apply below_alloc | apply pw_below_drewN | apply below_drew1) | exact HB.out)) hb); clear HB; have HB := n0_; clear n0_; (try clear hb); (try clear hb2); (try clear hk); (try clear hi)) | (go_at_call 6; (with_reducible refine (impl_NumberOfState.calls kj193 t258 t271 true _ A216.out).mono ?_); rintro e w226 ⟨rfl, hb⟩; have n0_ := Aside0.mk (below_step (by repeat (first | (with_reducible first | exact HB.out | apply below_alloc | apply pw_below_drewN | apply below_drew1) | exact HB.out)) hb); clear HB; have HB := n0_; clear n0_; (try clear hb); (try clear hb2); (try clear hk); (try clear hi))); try go_wp2_with (first | (go_at_call 20; (try rw [show (t250 : Int).toNat = (l2.take (t250 : Int).toNat).length from (by rw [List.length_take]; have h_ := of_decide_eq_true c206b1; omega)]); (with_reducible refine (impl_PlayMoves.calls kj193 a1 _ _ (l2.take (t250 : Int).toNat) t266 true _ ?side1 ?side2 A207.out).mono ?_); (case side1 => repeat (first | exact (Kd.C_below HR265.out HB.out) | (with_reducible refine Kd.C_alloc ?_ _) | (with_reducible refine Kd.C_drewN ?_ _) | (with_reducible refine Kd.C_drew ?_))); (case side2 => exact HC265.out); rintro e w224 ⟨rfl, hb⟩; have n0_ := Aside0.mk (below_step (by repeat (first | (with_reducible first | exact HB.out | apply below_alloc | apply pw_below_drewN | apply below_drew1) | exact HB.out)) hb); clear HB; have HB := n0_; clear n0_; (try clear hb); (try clear hb2); (try clear hk); (try clear hi); have p268 : 0 ≤ (t250 : Int) := of_decide_eq_true (by first | (with_reducible assumption) | assumption); have q268 : t250 < (l2.length : Int) := of_decide_eq_true (by first | (with_reducible assumption) | assumption); obtain ⟨ad268, e268, hx268_0⟩ := Kd.at_int HR2.out t250 p268 q268; cases e268; replace hx268_0 := (HB.out.cell (World.block_lt_of_cell? w _ hx268_0)).trans hx268_0; replace p268 := eq_true p268; replace q268 := eq_true q268) | (go_at_call 17; (with_reducible refine (impl_MoveRing.calls t266 (rd l2 t250) t269 false _ A210.out).mono ?_); rintro e w225 ⟨rfl, hb⟩; have n0_ := Aside0.mk (below_step (by repeat (first | (with_reducible first | exact HB.out | apply below_alloc | apply pw_below_drewN | apply below_drew1) | exact HB.out)) hb); clear HB; have HB := n0_; clear n0_; (try clear hb); (try clear hb2); (try clear hk); (try clear hi)) | (go_at_call 6; (with_reducible refine (impl_NumberOfState.calls kj193 t258 t271 true _ A216.out).mono ?_); rintro e w226 ⟨rfl, hb⟩; have n0_ := Aside0.mk (below_step (by repeat (first | (with_reducible first | exact HB.out | apply below_alloc | apply pw_below_drewN | apply below_drew1) | exact HB.out)) hb); clear HB; have HB := n0_; clear n0_; (try clear hb); (try clear hb2); (try clear hk); (try clear hi))))
   go_ret
   exact ⟨by first | rfl | (simp [errW_none, errW_some] <;> rfl) | (simp [*, errW_none, errW_some] <;> rfl), by repeat (first | (with_reducible first | exact HB.out | apply below_alloc | apply pw_below_drewN | apply below_drew1) | exact HB.out)⟩
 ·replace c217 := Bool.eq_false_iff.mpr c217
  subst c217
  rw [if_neg (show ¬ (false = true) by decide)] at H
  have H1 := H
  clear H
  have H := H1
  clear H1
  obtain rfl := Option.some.inj H
  obtain ⟨i0227, hi0227, _, hsz227, _⟩ := info_parts info3
  obtain ⟨hcut227, hA227, hC227⟩ := print_take_of (P := Tryd.prog) (Value.int .i64) 0 22 3 .i64 Tryd.underlying22 hi0227 hsz227 A2 c2 l2 t250 (of_decide_eq_true (by first | (with_reducible assumption) | assumption)) (of_decide_eq_true (by first | (with_reducible assumption) | assumption)) HC2.out
  have HR265 := Aside0.mk (Kd.C_of_reads (h1 := fun _ => rfl) (hA227 _ (Kd.reads_of_C HR2.out)))
  have HC265 := Aside0.mk hC227
  clear hA227 hC227 hi0227 hsz227
  go_wp2_with (first | (go_at_call 20; (try rw [show (t250 : Int).toNat = (l2.take (t250 : Int).toNat).length from (by rw [List.length_take]; have h_ := of_decide_eq_true c206b1; omega)]); (with_reducible refine (impl_PlayMoves.calls kj193 a1 _ _ (l2.take (t250 : Int).toNat) t266 true _ ?side1 ?side2 A207.out).mono ?_); (case side1 => repeat (first | exact (Kd.C_below HR265.out HB.out) | (with_reducible refine Kd.C_alloc ?_ _) | (with_reducible refine Kd.C_drewN ?_ _) | (with_reducible refine Kd.C_drew ?_))); (case side2 => exact HC265.out); rintro e w228 ⟨rfl, hb⟩; have n0_ := Aside0.mk (below_step (by repeat (first | (with_reducible first | exact HB.out | apply below_alloc | apply pw_below_drewN | apply below_drew1) | exact HB.out)) hb); clear HB; have HB := n0_; clear n0_; (try clear hb); (try clear hb2); (try clear hk); (try clear hi); have p268 : 0 ≤ (t250 : Int) := of_decide_eq_true (by first | (with_reducible assumption) | assumption); have q268 : t250 < (l2.length : Int) := of_decide_eq_true (by first | (with_reducible assumption) | assumption); obtain ⟨ad268, e268, hx268_0⟩ := Kd.at_int HR2.out t250 p268 q268; cases e268; replace hx268_0 := (HB.out.cell (World.block_lt_of_cell? w _ hx268_0)).trans hx268_0; replace p268 := eq_true p268; replace q268 := eq_true q268) | (go_at_call 17; (with_reducible refine (impl_MoveRing.calls t266 (rd l2 t250) t269 false _ A210.out).mono ?_); rintro e w229 ⟨rfl, hb⟩; have n0_ := Aside0.mk (below_step (by repeat (first | (with_reducible first | exact HB.out | apply below_alloc | apply pw_below_drewN | apply below_drew1) | exact HB.out)) hb); clear HB; have HB := n0_; clear n0_; (try clear hb); (try clear hb2); (try clear hk); (try clear hi)) | (go_at_call 6; (with_reducible refine (impl_NumberOfState.calls kj193 t258 t271 false _ A216.out).mono ?_); rintro e w230 ⟨rfl, hb⟩; have n0_ := Aside0.mk (below_step (by repeat (first | (with_reducible first | exact HB.out | apply below_alloc | apply pw_below_drewN | apply below_drew1) | exact HB.out)) hb); clear HB; have HB := n0_; clear n0_; (try clear hb); (try clear hb2); (try clear hk); (try clear hi)))
  repeat (go_quiet (first | (go_at_call 20; (try rw [show (t250 : Int).toNat = (l2.take (t250 : Int).toNat).length from (by rw [List.length_take]; have h_ := of_decide_eq_true c206b1; omega)]); (with_reducible refine (impl_PlayMoves.calls kj193 a1 _ _ (l2.take (t250 : Int).toNat) t266 true _ ?side1 ?side2 A207.out).mono ?_); (case side1 => repeat (first | exact (Kd.C_below HR265.out HB.out) | (with_reducible refine Kd.C_alloc ?_ _) | (with_reducible refine Kd.C_drewN ?_ _) | (with_reducible refine Kd.C_drew ?_))); (case side2 => exact HC265.out); rintro e w228 ⟨rfl, hb⟩; have n0_ := Aside0.mk (below_step (by repeat (first | (with_reducible first | exact HB.out | apply below_alloc | apply pw_below_drewN | apply below_drew1) | exact HB.out)) hb); clear HB; have HB := n0_; clear n0_; (try clear hb); (try clear hb2); (try clear hk); (try clear hi); have p268 : 0 ≤ (t250 : Int) := of_decide_eq_true (by first | (with_reducible assumption) | assumption); have q268 : t250 < (l2.length : Int) := of_decide_eq_true (by first | (with_reducible assumption) | assumption); obtain ⟨ad268, e268, hx268_0⟩ := Kd.at_int HR2.out t250 p268 q268; cases e268; replace hx268_0 := (HB.out.cell (World.block_lt_of_cell? w _ hx268_0)).trans hx268_0; replace p268 := eq_true p268; replace q268 := eq_true q268) | (go_at_call 17; (with_reducible refine (impl_MoveRing.calls t266 (rd l2 t250) t269 false _ A210.out).mono ?_); rintro e w229 ⟨rfl, hb⟩; have n0_ := Aside0.mk (below_step (by repeat (first | (with_reducible first | exact HB.out | apply below_alloc | apply pw_below_drewN | apply below_drew1) | exact HB.out)) hb); clear HB; have HB := n0_; clear n0_; (try clear hb); (try clear hb2); (try clear hk); (try clear hi)) | (go_at_call 6; (with_reducible refine (impl_NumberOfState.calls kj193 t258 t271 false _ A216.out).mono ?_); rintro e w230 ⟨rfl, hb⟩; have n0_ := Aside0.mk (below_step (by repeat (first | (with_reducible first | exact HB.out | apply below_alloc | apply pw_below_drewN | apply below_drew1) | exact HB.out)) hb); clear HB; have HB := n0_; clear n0_; (try clear hb); (try clear hb2); (try clear hk); (try clear hi))); try go_wp2_with (first | (go_at_call 20; (try rw [show (t250 : Int).toNat = (l2.take (t250 : Int).toNat).length from (by rw [List.length_take]; have h_ := of_decide_eq_true c206b1; omega)]); (with_reducible refine (impl_PlayMoves.calls kj193 a1 _ _ (l2.take (t250 : Int).toNat) t266 true _ ?side1 ?side2 A207.out).mono ?_); (case side1 => repeat (first | exact (Kd.C_below HR265.out HB.out) | (with_reducible refine Kd.C_alloc ?_ _) | (with_reducible refine Kd.C_drewN ?_ _) | (with_reducible refine Kd.C_drew ?_))); (case side2 => exact HC265.out); rintro e w228 ⟨rfl, hb⟩; have n0_ := Aside0.mk (below_step (by repeat (first | (with_reducible first | exact HB.out | apply below_alloc | apply pw_below_drewN | apply below_drew1) | exact HB.out)) hb); clear HB; have HB := n0_; clear n0_; (try clear hb); (try clear hb2); (try clear hk); (try clear hi); have p268 : 0 ≤ (t250 : Int) := of_decide_eq_true (by first | (with_reducible assumption) | assumption); have q268 : t250 < (l2.length : Int) := of_decide_eq_true (by first | (with_reducible assumption) | assumption); obtain ⟨ad268, e268, hx268_0⟩ := Kd.at_int HR2.out t250 p268 q268; cases e268; replace hx268_0 := (HB.out.cell (World.block_lt_of_cell? w _ hx268_0)).trans hx268_0; replace p268 := eq_true p268; replace q268 := eq_true q268) | (go_at_call 17; (with_reducible refine (impl_MoveRing.calls t266 (rd l2 t250) t269 false _ A210.out).mono ?_); rintro e w229 ⟨rfl, hb⟩; have n0_ := Aside0.mk (below_step (by repeat (first | (with_reducible first | exact HB.out | apply below_alloc | apply pw_below_drewN | apply below_drew1) | exact HB.out)) hb); clear HB; have HB := n0_; clear n0_; (try clear hb); (try clear hb2); (try clear hk); (try clear hi)) | (go_at_call 6; (with_reducible refine (impl_NumberOfState.calls kj193 t258 t271 false _ A216.out).mono ?_); rintro e w230 ⟨rfl, hb⟩; have n0_ := Aside0.mk (below_step (by repeat (first | (with_reducible first | exact HB.out | apply below_alloc | apply pw_below_drewN | apply below_drew1) | exact HB.out)) hb); clear HB; have HB := n0_; clear n0_; (try clear hb); (try clear hb2); (try clear hk); (try clear hi))))
  go_ret
  exact ⟨by first | rfl | (simp [errW_none, errW_some] <;> rfl) | (simp [*, errW_none, errW_some] <;> rfl), by repeat (first | (with_reducible first | exact HB.out | apply below_alloc | apply pw_below_drewN | apply below_drew1) | exact HB.out)⟩

theorem laws_FnRingsMoveOfAll.d20 : laws_FnRingsMoveOfAll.c17.2.1 := laws_FnRingsMoveOfAll.c20.2 ⟨laws_FnRingsMoveOfAll.c21⟩

theorem laws_FnRingsMoveOfAll.d18 : laws_FnRingsMoveOfAll.c17.1 := laws_FnRingsMoveOfAll.c18.2 ⟨laws_FnRingsMoveOfAll.c19⟩

theorem laws_FnRingsMoveOfAll.d17 : laws_FnRingsMoveOfAll.c15.2.1 := laws_FnRingsMoveOfAll.c17.2.2 ⟨laws_FnRingsMoveOfAll.d18⟩ ⟨laws_FnRingsMoveOfAll.d20⟩

theorem laws_FnRingsMoveOfAll.d15 : laws_FnRingsMoveOfAll.c6.2.1 := laws_FnRingsMoveOfAll.c15.2.2 ⟨laws_FnRingsMoveOfAll.c16⟩ ⟨laws_FnRingsMoveOfAll.d17⟩

theorem laws_FnRingsMoveOfAll.d13 : laws_FnRingsMoveOfAll.c10.2.1 := laws_FnRingsMoveOfAll.c13.2 ⟨laws_FnRingsMoveOfAll.c14⟩

theorem laws_FnRingsMoveOfAll.d11 : laws_FnRingsMoveOfAll.c10.1 := laws_FnRingsMoveOfAll.c11.2 ⟨laws_FnRingsMoveOfAll.c12⟩

theorem laws_FnRingsMoveOfAll.d10 : laws_FnRingsMoveOfAll.c9.1 := laws_FnRingsMoveOfAll.c10.2.2 ⟨laws_FnRingsMoveOfAll.d11⟩ ⟨laws_FnRingsMoveOfAll.d13⟩

theorem laws_FnRingsMoveOfAll.d9 : laws_FnRingsMoveOfAll.c7.2.1 := laws_FnRingsMoveOfAll.c9.2 ⟨laws_FnRingsMoveOfAll.d10⟩

theorem laws_FnRingsMoveOfAll.d7 : laws_FnRingsMoveOfAll.c6.1 := laws_FnRingsMoveOfAll.c7.2.2 ⟨laws_FnRingsMoveOfAll.c8⟩ ⟨laws_FnRingsMoveOfAll.d9⟩

theorem laws_FnRingsMoveOfAll.d6 : laws_FnRingsMoveOfAll.c1.2.1 := laws_FnRingsMoveOfAll.c6.2.2 ⟨laws_FnRingsMoveOfAll.d7⟩ ⟨laws_FnRingsMoveOfAll.d15⟩

theorem laws_FnRingsMoveOfAll.d4 : laws_FnRingsMoveOfAll.c3.1 := laws_FnRingsMoveOfAll.c4.2 ⟨laws_FnRingsMoveOfAll.c5⟩

theorem laws_FnRingsMoveOfAll.d3 : laws_FnRingsMoveOfAll.c2.1 := laws_FnRingsMoveOfAll.c3.2 ⟨laws_FnRingsMoveOfAll.d4⟩

theorem laws_FnRingsMoveOfAll.d2 : laws_FnRingsMoveOfAll.c1.1 := laws_FnRingsMoveOfAll.c2.2 ⟨laws_FnRingsMoveOfAll.d3⟩

theorem laws_FnRingsMoveOfAll.d1 : laws_FnRingsMoveOfAll.c0.1 := laws_FnRingsMoveOfAll.c1.2.2 ⟨laws_FnRingsMoveOfAll.d2⟩ ⟨laws_FnRingsMoveOfAll.d6⟩

theorem laws_FnRingsMoveOfAll.calls (k : Nat) (a0 : ByteArray) (a1 : ByteArray) (A2 : Option Addr) (c2 : Nat) (l2 : List Int) (a3 : ByteArray) (a4 : Int) (a5 : Int) (a6 : Int) (r : Bool) (w : World) (hr2 : Kd.C (Kd.int .i64) w A2 l2.length l2) (hc2 : l2.length ≤ c2) (h : laws_FnRingsMoveOfAll.f k a0 a1 l2 a3 a4 a5 a6 = some r) :
  Calls Tryd.prog 3 #[.string a0, .string a1, .slice A2 l2.length c2, .string a3, .int .i64 a4, .int .i64 a5, .int .i64 a6] w fun e w' => e = .returned (.bool r) ∧ Below w.heap.size w w' := laws_FnRingsMoveOfAll.c0.2 ⟨laws_FnRingsMoveOfAll.d1⟩ k a0 a1 A2 c2 l2 a3 a4 a5 a6 r w hr2 hc2 h
theorem laws_FnRingsMoveOfAll.walk (P : laws_FnRingsMoveOfAll.Pure) (a0 : ByteArray) (a1 : ByteArray) (a2 : Option Addr) (len2 cap2 : Nat) (z2 : List Int) (a3 : ByteArray) (a4 : Int) (a5 : Int) (a6 : Int) (w : World) (w0 : a0.size ≤ 140737488351232) (w1 : a1.size ≤ 140737488351232) (w2 : (a2 = none ∧ len2 = 0 ∧ cap2 = 0 ∧ z2 = []) ∨ ∃ x, a2 = some x ∧ len2 ≤ cap2 ∧ cap2 ≤ maxLen ∧ z2.length = cap2 ∧ (∀ i, i < z2.length → w.cell? (x.add i) = some (.int .i64 (z2.getD i 0))) ∧ ∀ n ∈ z2, (Lit.int .i64 n).wf = true) (y2 : len2 * 8 ≤ 140737488351232) (w3 : a3.size ≤ 140737488351232) (w4 : (Lit.int .i64 a4).wf = true) (w5 : (Lit.int .i64 a5).wf = true) (w6 : (Lit.int .i64 a6).wf = true) :
  Calls Tryd.prog 3 #[.string a0, .string a1, .slice a2 len2 cap2, .string a3, .int .i64 a4, .int .i64 a5, .int .i64 a6] w fun e w' => e = .returned (.bool true) ∧ Below w.heap.size w w' := by
 obtain ⟨l2, rfl, hr2, hm2, hw2, hc2⟩ := ReadsInt.ofRowC w2
 obtain ⟨k, h⟩ := P a0 a1 l2 a3 a4 a5 a6 w0 w1 hm2 y2 hw2 w3 w4 w5 w6
 refine (laws_FnRingsMoveOfAll.calls k a0 a1 _ _ l2 a3 a4 a5 a6 true w (Kd.C_of_reads (d := (0 : Int)) (h1 := fun _ => rfl) hr2) hc2 h).mono ?_
 rintro e w' ⟨rfl, hd⟩
 exact ⟨rfl, hd⟩

end Go.Proofs.YtahdlpadcbigaaaDoor.A
