/- Part of a proof over a Go program: Cf. No condition. -/
import Derived.Test.YtkjghcbnmipgfaaGreatDoorA12
set_option linter.unusedSectionVars false
set_option linter.unusedSimpArgs false
set_option linter.unusedVariables false
set_option maxRecDepth 100000
namespace Go.Proofs.YtkjghcbnmipgfaaGreatDoor.Vc
open Go.RowKit Ma
theorem lag_prod {lag n : Int} (hl : 0 ≤ lag ∧ lag ≤ 5) (hn : -1000 ≤ n ∧ n ≤ 1000) : -6000 ≤ (n - 1) * lag ∧ (n - 1) * lag ≤ 6000 := by
  have : lag = 0 ∨ lag = 1 ∨ lag = 2 ∨ lag = 3 ∨ lag = 4 ∨ lag = 5 := by omega
  rcases this with rfl | rfl | rfl | rfl | rfl | rfl <;> omega
theorem size30 (c : Cf) (t : Tk) (n : Int) (hl : 0 ≤ c.lag ∧ c.lag ≤ 5) (hd : -1000 ≤ t.D ∧ t.D ≤ 1000) (hn : -1000 ≤ n ∧ n ≤ 1000) : PureCall Tryz.prog 30 [eCf c, eT t, .int .i64 n] (.p (.int .i64 (sizeV t.D c.lag n))) := by
  have hp := lag_prod hl hn
  by_cases h1 : n < 1
  · have hb : decide (n < 1) = true := decide_eq_true h1
    have e : sizeV t.D c.lag n = 0 := by unfold sizeV; rw [if_pos (.inl h1)]
    rw [e]
    refine Fn.run k30 rfl ?_
    generalize Tryz.prog = P at *
    (repeat' ((conv => whnf); first | exact trivial | with_reducible refine zX ?_ | refine ⟨rfl, ?_⟩ | refine ⟨_, rfl, ?_⟩ | with_reducible refine zP ?_ | with_reducible refine zL ?_ | refine ⟨fun _ => ?_, fun _ => ?_⟩ | refine zn ?_ | refine zb rfl ?_ | refine zX ?_ | refine zo rfl ?_ | refine zs ?_ | intro _)); all_goals (try (conv => whnf))
    all_goals rfl
  · have hb : decide (n < 1) = false := decide_eq_false h1
    have w1 : IntKind.wrap .i64 (n - 1) = n - 1 := wrapE (by omega) (by omega)
    have w2 : IntKind.wrap .i64 ((n - 1) * c.lag) = (n - 1) * c.lag := wrapE (by omega) (by omega)
    have w3 : IntKind.wrap .i64 (t.D - (n - 1) * c.lag) = t.D - (n - 1) * c.lag := wrapE (by omega) (by omega)
    have hc := down58 (IntKind.wrap .i64 (t.D - IntKind.wrap .i64 (IntKind.wrap .i64 (n - 1) * c.lag))) n (by rw [w1, w2, w3]; omega) (by rw [w1, w2, w3]; omega) (by omega)
    rw [w1, w2, w3] at hc
    rw [← w3, ← w2, ← w1] at hc
    have e : sizeV t.D c.lag n = if (0 : Int) > (t.D - (n - 1) * c.lag) / n then 0 else (t.D - (n - 1) * c.lag) / n := by
      unfold sizeV
      by_cases h2 : t.D - (n - 1) * c.lag < n
      · rw [if_pos (.inr h2)]
        by_cases h3 : 0 ≤ t.D - (n - 1) * c.lag
        · have : (t.D - (n - 1) * c.lag) / n = 0 := Int.ediv_eq_zero_of_lt h3 h2
          rw [this]; rfl
        · have : (t.D - (n - 1) * c.lag) / n < 0 := Int.ediv_neg_of_neg_of_pos (by omega) (by omega)
          rw [if_pos this]
      · rw [if_neg (by omega)]
        have : 0 ≤ (t.D - (n - 1) * c.lag) / n := Int.ediv_nonneg (by omega) (by omega)
        rw [if_neg (by omega)]
    rw [e]
    generalize hq : (t.D - (n - 1) * c.lag) / n = q at *
    refine Fn.run k30 rfl ?_
    generalize Tryz.prog = P at *
    (repeat' ((conv => whnf); first | exact trivial | with_reducible refine zX ?_ | refine ⟨rfl, ?_⟩ | refine ⟨_, rfl, ?_⟩ | with_reducible refine zP ?_ | with_reducible refine zL ?_ | refine ⟨fun _ => ?_, fun _ => ?_⟩ | refine zn ?_ | refine zb rfl ?_ | refine zX ?_ | refine zo rfl ?_ | refine zs ?_ | intro _)); all_goals (try (conv => whnf))
    all_goals (refine int_end ?_; rw [w1, w2, w3, hq])
theorem size31 (c : Cf) (t : Tk) (n : Int) (hl : 0 ≤ c.lag ∧ c.lag ≤ 5) (hd : -1000 ≤ t.D ∧ t.D ≤ 1000) (hn : -1000 ≤ n ∧ n ≤ 1000) : PureCall Tryz.prog 31 [eCf c, eT t, .int .i64 n] (.p (.int .i64 (sizeV t.D c.lag n))) := by
  have hp := lag_prod hl hn
  have w1 : IntKind.wrap .i64 (n - 1) = n - 1 := wrapE (by omega) (by omega)
  have w2 : IntKind.wrap .i64 ((n - 1) * c.lag) = (n - 1) * c.lag := wrapE (by omega) (by omega)
  have w3 : IntKind.wrap .i64 (t.D - (n - 1) * c.lag) = t.D - (n - 1) * c.lag := wrapE (by omega) (by omega)
  unfold sizeV
  by_cases h1 : n < 1 ∨ t.D - (n - 1) * c.lag < n
  · rw [if_pos h1]
    refine Fn.run k31 rfl ?_
    generalize Tryz.prog = P at *
    (repeat' ((conv => whnf); first | exact trivial | with_reducible refine zX ?_ | refine ⟨rfl, ?_⟩ | refine ⟨_, rfl, ?_⟩ | with_reducible refine zP ?_ | with_reducible refine zL ?_ | refine ⟨fun _ => ?_, fun _ => ?_⟩ | refine zn ?_ | refine zb rfl ?_ | refine zX ?_ | refine zo rfl ?_ | refine zs ?_ | intro _)); all_goals (try (conv => whnf))
    all_goals first
      | rfl
      | (exfalso; simp only [decide_eq_true_eq, decide_eq_false_iff_not, w1, w2, w3] at *; omega)
  · rw [if_neg h1]
    have b1 : decide (n < 1) = false := decide_eq_false (by omega)
    have b2 : decide (IntKind.wrap .i64 (t.D - IntKind.wrap .i64 (IntKind.wrap .i64 (n - 1) * c.lag)) < n) = false := decide_eq_false (by rw [w1, w2, w3]; omega)
    have b3 : n ≠ 0 := by omega
    have hq : 0 ≤ (t.D - (n - 1) * c.lag) / n ∧ (t.D - (n - 1) * c.lag) / n ≤ t.D - (n - 1) * c.lag := ⟨Int.ediv_nonneg (by omega) (by omega), Int.ediv_le_self _ (by omega)⟩
    refine Fn.run k31 rfl ?_
    generalize Tryz.prog = P at *
    (repeat' ((conv => whnf); first | exact trivial | with_reducible refine zX ?_ | refine ⟨rfl, ?_⟩ | refine ⟨_, rfl, ?_⟩ | with_reducible refine zP ?_ | with_reducible refine zL ?_ | refine ⟨fun _ => ?_, fun _ => ?_⟩ | refine zn ?_ | refine zb rfl ?_ | refine zX ?_ | refine zo rfl ?_ | refine zs ?_ | intro _)); all_goals (try (conv => whnf))
    all_goals (refine int_end ?_; rw [w1, w2, w3, Int.tdiv_eq_ediv_of_nonneg (by omega), wrapE (by omega) (by omega)])
end Go.Proofs.YtkjghcbnmipgfaaGreatDoor.Vc
