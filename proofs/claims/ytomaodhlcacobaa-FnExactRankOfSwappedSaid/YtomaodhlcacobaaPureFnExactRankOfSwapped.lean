/- The law FnExactRankOfSwapped, told over plain functions, holds for all arguments; no condition beyond the kinds of the numbers. -/
import Derived.Test.YtomaodhlcacobaaAx11
import Derived.Test.YtomaodhlcacobaaAx12
import Derived.Test.YtomaodhlcacobaaAx4
import Derived.Test.YtomaodhlcacobaaSwaps
set_option linter.unusedVariables false
set_option linter.unusedSimpArgs false
namespace Go.Proofs.Ytomaodhlcacobaa.Pure
open Go.RowKit Go.Proofs.Ytomaodhlcacobaa.A Go.Proofs.YtomaodhlcacobaaW.PrintWords Go.Proofs.YtomaodhlcacobaaW.PrintLast Go.Proofs.YtomaodhlcacobaaW.PrintMore

theorem rankOfSwapped (l : List Int) (hl : l.length ≤ 2000000) : ∃ (r : Int) (b : Bool), ∀ k, l.length + 300 < k → spec_RankOfSwapped.f k l = some (r, b) ∧ impl_RankOfSwapped.f k l = some (r, b) := by
  by_cases hlen : 1 ≤ (l.length : Int) ∧ (l.length : Int) ≤ 10
  · have ew : Aside0 (wrap64 ((l.length : Int) - 1) = (l.length : Int) - 1) := ⟨w64 (by omega) (by omega)⟩
    have hhead : ∀ (k : Nat) (b : Bool), l.length + 300 < k → (b = true ↔ rng l) → spec_RankOfSwapped.f k l = spec_RankOfSwapped.j0 k l (l.length : Int) (!b) := by
      intro k b hk hb
      unfold spec_RankOfSwapped.f
      rw [in_dec, decide_eq_true hlen, ew.out, l1All hl (by omega)]
      simp only [Option.bind_some, if_true]
      have : (l.all fun x => decide (0 ≤ x ∧ x ≤ (l.length : Int) - 1)) = b := by
        cases b with
        | true =>
          rw [List.all_eq_true]
          intro x hx
          exact decide_eq_true (hb.1 rfl x hx)
        | false =>
          cases hq : (l.all fun x => decide (0 ≤ x ∧ x ≤ (l.length : Int) - 1)) with
          | false => rfl
          | true =>
            rw [List.all_eq_true] at hq
            have := hb.2 (fun x hx => of_decide_eq_true (hq x hx))
            cases this
      rw [this]
    have hperm : ∀ (k : Nat) (b : Bool), 200 < k → (b = true ↔ rng l ∧ l.Nodup) → impl_isPermutation.f k l = some b := by
      intro k b hk hb
      unfold impl_isPermutation.f
      exact isPerm_l0 (by omega) l.length k 0 (by omega) (by omega) (by simp) (by simp) b hb
    by_cases hr : rng l
    · by_cases hn : l.Nodup
      · obtain ⟨ns, rfl, hp⟩ := rng_nats hr hn
        rw [List.length_map] at hlen
        refine ⟨(M.srk ns.length ns : Int), true, fun k hk => ⟨?_, ?_⟩⟩
        · rw [hhead k true hk (by simp [hr])]
          obtain ⟨k, rfl⟩ : ∃ m, k = m + 1 := ⟨k - 1, by omega⟩
          rw [spec_RankOfSwapped.j0]
          simp only [Bool.not_true, Bool.false_eq_true, if_false]
          rw [List.length_map] at hk
          have e := has_l0_ok (l := ns.map Int.ofNat) (s := (ns.length : Int)) (by rw [List.length_map]; omega) hn ns.length 0 (k - ns.length - 1) k (by omega) (by rw [List.length_map]; omega) (by omega)
          rw [List.length_map] at e ⊢
          refine e.trans ?_
          have := l1_at (ns := ns) (s := ns.length) (by omega) hp ns.length (k - ns.length - 1) 0 (by omega) (by omega)
          exact this
        · have h1 := hperm k true (by omega) (by simp [hr, hn])
          unfold impl_RankOfSwapped.f
          rw [in_val, List.length_map, decide_eq_true hlen]
          simp only [Option.bind_some, if_true]
          rw [h1, swapRank ns.length k ns (by omega) hp (by rw [List.length_map] at hk; omega)]
          simp only [Option.bind_some, if_true]
      · refine ⟨0, false, fun k hk => ⟨?_, ?_⟩⟩
        · rw [hhead k true hk (by simp [hr])]
          obtain ⟨k, rfl⟩ : ∃ m, k = m + 1 := ⟨k - 1, by omega⟩
          rw [spec_RankOfSwapped.j0]
          simp only [Bool.not_true, Bool.false_eq_true, if_false]
          exact has_l0_bad (by omega) hn l.length 0 k (by omega) (by omega) (by simp)
        · have h1 := hperm k false (by omega) (by simp [hn])
          unfold impl_RankOfSwapped.f
          rw [in_val, decide_eq_true hlen]
          simp only [Option.bind_some, if_true]
          rw [h1]
          rfl
    · refine ⟨0, false, fun k hk => ⟨?_, ?_⟩⟩
      · rw [hhead k false hk (by simp [hr])]
        obtain ⟨k, rfl⟩ : ∃ m, k = m + 1 := ⟨k - 1, by omega⟩
        rw [spec_RankOfSwapped.j0]; rfl
      · have h1 := hperm k false (by omega) (by simp [hr])
        unfold impl_RankOfSwapped.f
        rw [in_val, decide_eq_true hlen]
        simp only [Option.bind_some, if_true]
        rw [h1]
        rfl
  · refine ⟨0, false, fun k hk => ⟨?_, ?_⟩⟩
    · unfold spec_RankOfSwapped.f
      rw [in_dec, decide_eq_false hlen]
      obtain ⟨k, rfl⟩ : ∃ m, k = m + 1 := ⟨k - 1, by omega⟩
      rfl
    · unfold impl_RankOfSwapped.f
      rw [in_val, decide_eq_false hlen]
      rfl
theorem FnExactRankOfSwapped : laws_FnExactRankOfSwapped.Pure := by
  intro l _ _ _
  refine ⟨l.length + 400, ?_⟩
  unfold laws_FnExactRankOfSwapped.f
  by_cases hl : (l.length : Int) > 1048576
  · rw [if_pos hl]
  obtain ⟨r, b, H⟩ := rankOfSwapped l (by omega)
  obtain ⟨k, hk⟩ : ∃ k, l.length + 400 = k + 1 := ⟨l.length + 399, by omega⟩
  rw [if_neg hl, toIntS (by omega) (by omega)]
  simp only [Option.bind_some]
  rw [(H _ (by omega)).1, (H _ (by omega)).2, hk]
  simp only [Option.bind_some, if_true, bne_self_eq_false]
  simp only [laws_FnExactRankOfSwapped.j0, Bool.false_eq_true, if_false]
  rw [toIntS (by omega) (by omega)]
  simp only [Option.bind_some]
  rw [eqIntS (by omega) (by omega)]
  simp

end Go.Proofs.Ytomaodhlcacobaa.Pure
