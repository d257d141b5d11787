/- Part of a proof over a Go program: Ct. No condition. -/
import Derived.Test.YtkjghcbnmipgfaaGreatDoorA11
set_option linter.unusedSectionVars false
set_option linter.unusedSimpArgs false
set_option linter.unusedVariables false
set_option maxHeartbeats 4000000
set_option maxRecDepth 100000
namespace Go.Proofs.YtkjghcbnmipgfaaGreatDoor.Vc
open Go.RowKit Ma
theorem task44 (c : Cf) (t : Tk) (hl : t.secs.length ≤ 1000) (hlc : c.res.length ≤ 1000) : PureCall Tryz.prog 44 [eCf c, eT t] (.p (.bool (t.ok c.res.length))) := by
  have hm := maxLen_eq
  have hwi := fun n => in65 n 1 200
  have hwj := fun n m => in65 n 1 m
  unfold Tk.ok
  by_cases hh : headT t
  · rw [decide_eq_true hh, Bool.true_and]
    obtain ⟨a1, a2, a3, a4, a5⟩ := hh
    have b1 : decide (t.C < 1) = false := decide_eq_false (by omega)
    have b2 : decide (t.D < t.C) = false := decide_eq_false (by omega)
    have b3 : decide (t.T < t.D) = false := decide_eq_false (by omega)
    have b4 : decide (t.T > 200) = false := decide_eq_false (by omega)
    have b5 : decide (((t.secs.map eS).length : Int) > 2) = false := decide_eq_false (by simp; omega)
    have hC1 : IntKind.wrap .i64 (t.C - 1) = t.C - 1 := wrapE (by omega) (by omega)
    refine Fn.run k44 rfl ?_
    generalize Tryz.prog = P at *
    (repeat' ((conv => whnf); first | exact trivial | with_reducible refine zX ?_ | refine ⟨rfl, ?_⟩ | refine ⟨_, rfl, ?_⟩ | with_reducible refine zP ?_ | with_reducible refine zL ?_ | refine ⟨fun _ => ?_, fun _ => ?_⟩ | refine zn ?_ | refine zb rfl ?_ | refine zX ?_ | refine zo rfl ?_ | refine zs ?_ | intro _)); all_goals (try (conv => whnf))
    refine loop_inv (fun n s => ∃ (i : Nat) (last : Int), n + i = t.secs.length ∧ 0 ≤ last ∧ (i = 0 → last = 0) ∧ (∀ j, i = j + 1 → ∃ q, t.secs[j]? = some q ∧ q.at_ = last) ∧ secsB c.res.length t.C last (t.secs.drop i) = secsB c.res.length t.C 0 t.secs ∧
      s = ⟨mkT 89 [(2, .addr 0 5 0 0), (3, .addr 1 4 0 0), (5, .p (.int .i64 i))], [some (bCf c true), some (bTk t), none]⟩) t.secs.length ?_ ?_
    · conv => whnf
      exact ⟨0, 0, rfl, Int.le_refl _, fun _ => rfl, (fun j h => by cases h), rfl, rfl⟩
    · rintro n st b N ⟨i, last, hi, hlast, hz, hp, hI, e⟩ hN
      cases e
      by_cases hlt : i < t.secs.length
      · have hrow : (t.secs.map eS)[i]? = some (.agg [.int .i64 t.secs[i].res, .int .i64 t.secs[i].at_, .int .i64 t.secs[i].len]) := by simp [hlt, eS]
        have hb := lt_t (n := (t.secs.map eS).length) (by simpa using hlt)
        have hsome : t.secs[i]? = some t.secs[i] := by simp [hlt]
        rw [List.drop_eq_getElem_cons hlt] at hI
        simp only [secsB] at hI
        have hw := hwi t.secs[i].len
        have hv := hwj t.secs[i].at_ (IntKind.wrap .i64 (t.C - 1))
        generalize hsi : t.secs[i] = x at *
        have step : ∀ y : Bool, (((decide (0 ≤ x.res) && (decide (x.res < (c.res.length : Int)) && (decide (1 ≤ x.len) && (decide (x.len ≤ 200) && (decide (last < x.at_) && decide (x.at_ < t.C)))))) = true → y = secsB c.res.length t.C x.at_ (t.secs.drop (i + 1))) →
            ((decide (0 ≤ x.res) && (decide (x.res < (c.res.length : Int)) && (decide (1 ≤ x.len) && (decide (x.len ≤ 200) && (decide (last < x.at_) && decide (x.at_ < t.C)))))) = false → y = false) → y = secsB c.res.length t.C 0 t.secs) := by
          intro y h1 h2
          rw [← hI]
          cases hd : (decide (0 ≤ x.res) && (decide (x.res < (c.res.length : Int)) && (decide (1 ≤ x.len) && (decide (x.len ≤ 200) && (decide (last < x.at_) && decide (x.at_ < t.C)))))) with
          | true =>
            rw [h1 hd]
            simp only [Bool.and_eq_true] at hd
            simp [hd]
          | false =>
            rw [h2 hd]
            simp only [Bool.and_eq_false_iff] at hd
            rcases hd with h | h | h | h | h | h <;> simp [h]
        by_cases c1 : 0 ≤ x.res ∧ x.res < (c.res.length : Int) ∧ 1 ≤ x.len ∧ x.len ≤ 200 ∧ last < x.at_ ∧ x.at_ < t.C
        · obtain ⟨c1, c2, c3, c4, c5, c6⟩ := c1
          have d1 : decide (x.res < 0) = false := decide_eq_false (by omega)
          have d2 : decide (x.res ≥ ((c.res.map eI).length : Int)) = false := decide_eq_false (by simp; omega)
          have d3 : (decide (1 ≤ x.len) && decide (x.len ≤ 200)) = true := by simp [c3, c4]
          have d4 : (decide (1 ≤ x.at_) && decide (x.at_ ≤ IntKind.wrap .i64 (t.C - 1))) = true := by rw [hC1]; simp; omega
          rw [d3] at hw
          rw [d4] at hv
          rw [decide_eq_true c1, decide_eq_true c2, decide_eq_true c3, decide_eq_true c4, decide_eq_true c5, decide_eq_true c6] at hI
          simp only [Bool.true_and] at hI
          cases i with
          | zero =>
            have d5 : decide (((0 : Nat) : Int) > 0) = false := by decide
            (repeat' ((conv => whnf); first | exact trivial | with_reducible refine zX ?_ | refine ⟨rfl, ?_⟩ | refine ⟨_, rfl, ?_⟩ | with_reducible refine zP ?_ | with_reducible refine zL ?_ | refine ⟨fun _ => ?_, fun _ => ?_⟩ | refine zn ?_ | refine zb rfl ?_ | refine zX ?_ | refine zo rfl ?_ | refine zs ?_ | intro _)); all_goals (try (conv => whnf))
            refine hN (n - 1) _ (by omega) ⟨1, x.at_, by omega, by omega, (fun h => by cases h), (fun j hj => ?_), hI, rfl⟩
            have : j = 0 := by omega
            subst this
            exact ⟨x, hsome, rfl⟩
          | succ j =>
            obtain ⟨q, hq, hql⟩ := hp j rfl
            have hw1 : IntKind.wrap .i64 (((j + 1 : Nat) : Int) - 1) = (j : Int) := by rw [wrapE (by omega) (by omega)]; omega
            have d5 : decide (((j + 1 : Nat) : Int) > 0) = true := decide_eq_true (by omega)
            have d6 : 0 ≤ IntKind.wrap .i64 (((j + 1 : Nat) : Int) - 1) := by rw [hw1]; omega
            have hrow2 : (t.secs.map eS)[(IntKind.wrap .i64 (((j + 1 : Nat) : Int) - 1)).toNat]? = some (.agg [.int .i64 q.res, .int .i64 q.at_, .int .i64 q.len]) := by
              rw [hw1, Int.toNat_natCast, List.getElem?_map, hq]; rfl
            have d7 : decide (x.at_ ≤ q.at_) = false := decide_eq_false (by omega)
            (repeat' ((conv => whnf); first | exact trivial | with_reducible refine zX ?_ | refine ⟨rfl, ?_⟩ | refine ⟨_, rfl, ?_⟩ | with_reducible refine zP ?_ | with_reducible refine zL ?_ | refine ⟨fun _ => ?_, fun _ => ?_⟩ | refine zn ?_ | refine zb rfl ?_ | refine zX ?_ | refine zo rfl ?_ | refine zs ?_ | intro _)); all_goals (try (conv => whnf))
            rw [next1 (n := t.secs.length) hlt (by omega)]
            refine hN (n - 1) _ (by omega) ⟨j + 2, x.at_, by omega, by omega, (fun h => by cases h), (fun k hk => ?_), hI, rfl⟩
            have : k = j + 1 := by omega
            subst this
            exact ⟨x, hsome, rfl⟩
        · have hfalse : secsB c.res.length t.C 0 t.secs = false := by
            rw [← hI]
            simp only [Bool.and_eq_false_iff, decide_eq_false_iff_not]
            omega
          rw [hfalse]
          clear step hI
          cases i with
          | zero =>
            have hz0 := hz rfl
            subst hz0
            have d5 : decide (((0 : Nat) : Int) > 0) = false := by decide
            have hno : (decide (x.res < 0) || (decide (x.res ≥ ((c.res.map eI).length : Int)) || (!(decide (1 ≤ x.len) && decide (x.len ≤ 200)) || !(decide (1 ≤ x.at_) && decide (x.at_ ≤ IntKind.wrap .i64 (t.C - 1)))))) = true := by
              rw [hC1]
              simp only [Bool.or_eq_true, decide_eq_true_eq, List.length_map, Bool.not_eq_true', Bool.and_eq_false_iff, decide_eq_false_iff_not]
              omega
            generalize (decide (1 ≤ x.len) && decide (x.len ≤ 200)) = y3 at *
            generalize (decide (1 ≤ x.at_) && decide (x.at_ ≤ IntKind.wrap .i64 (t.C - 1))) = y4 at *
            (repeat' ((conv => whnf); first | exact trivial | with_reducible refine zX ?_ | refine ⟨rfl, ?_⟩ | refine ⟨_, rfl, ?_⟩ | with_reducible refine zP ?_ | with_reducible refine zL ?_ | refine ⟨fun _ => ?_, fun _ => ?_⟩ | refine zn ?_ | refine zb rfl ?_ | refine zX ?_ | refine zo rfl ?_ | refine zs ?_ | intro _)); all_goals (try (conv => whnf))
            all_goals first
              | exact bool_end rfl
              | (exfalso
                 have e1 : decide (x.res < 0) = false := by assumption
                 have e2 : decide (x.res ≥ ((c.res.map eI).length : Int)) = false := by assumption
                 have e3 : (!y3) = false := by first | assumption | (simp; assumption)
                 have e4 : (!y4) = false := by first | assumption | (simp; assumption)
                 rw [e1, e2, e3, e4] at hno
                 exact absurd hno (by decide))
          | succ j =>
            obtain ⟨q, hq, hql⟩ := hp j rfl
            have hw1 : IntKind.wrap .i64 (((j + 1 : Nat) : Int) - 1) = (j : Int) := by rw [wrapE (by omega) (by omega)]; omega
            have d5 : decide (((j + 1 : Nat) : Int) > 0) = true := decide_eq_true (by omega)
            have d6 : 0 ≤ IntKind.wrap .i64 (((j + 1 : Nat) : Int) - 1) := by rw [hw1]; omega
            have hrow2 : (t.secs.map eS)[(IntKind.wrap .i64 (((j + 1 : Nat) : Int) - 1)).toNat]? = some (.agg [.int .i64 q.res, .int .i64 q.at_, .int .i64 q.len]) := by
              rw [hw1, Int.toNat_natCast, List.getElem?_map, hq]; rfl
            have hno : (decide (x.res < 0) || (decide (x.res ≥ ((c.res.map eI).length : Int)) || (!(decide (1 ≤ x.len) && decide (x.len ≤ 200)) || (!(decide (1 ≤ x.at_) && decide (x.at_ ≤ IntKind.wrap .i64 (t.C - 1))) || decide (x.at_ ≤ q.at_))))) = true := by
              rw [hC1]
              simp only [Bool.or_eq_true, decide_eq_true_eq, List.length_map, Bool.not_eq_true', Bool.and_eq_false_iff, decide_eq_false_iff_not]
              omega
            generalize (decide (1 ≤ x.len) && decide (x.len ≤ 200)) = y3 at *
            generalize (decide (1 ≤ x.at_) && decide (x.at_ ≤ IntKind.wrap .i64 (t.C - 1))) = y4 at *
            (repeat' ((conv => whnf); first | exact trivial | with_reducible refine zX ?_ | refine ⟨rfl, ?_⟩ | refine ⟨_, rfl, ?_⟩ | with_reducible refine zP ?_ | with_reducible refine zL ?_ | refine ⟨fun _ => ?_, fun _ => ?_⟩ | refine zn ?_ | refine zb rfl ?_ | refine zX ?_ | refine zo rfl ?_ | refine zs ?_ | intro _)); all_goals (try (conv => whnf))
            all_goals first
              | exact bool_end rfl
              | (exfalso
                 have e1 : decide (x.res < 0) = false := by assumption
                 have e2 : decide (x.res ≥ ((c.res.map eI).length : Int)) = false := by assumption
                 have e3 : (!y3) = false := by first | assumption | (simp; assumption)
                 have e4 : (!y4) = false := by first | assumption | (simp; assumption)
                 have e5 : decide (x.at_ ≤ q.at_) = false := by assumption
                 rw [e1, e2, e3, e4, e5] at hno
                 exact absurd hno (by decide))
      · have hb := lt_f (n := (t.secs.map eS).length) (by simpa using hlt)
        rw [List.drop_of_length_le (by omega)] at hI
        rw [← hI]
        (repeat' ((conv => whnf); first | exact trivial | with_reducible refine zX ?_ | refine ⟨rfl, ?_⟩ | refine ⟨_, rfl, ?_⟩ | with_reducible refine zP ?_ | with_reducible refine zL ?_ | refine ⟨fun _ => ?_, fun _ => ?_⟩ | refine zn ?_ | refine zb rfl ?_ | refine zX ?_ | refine zo rfl ?_ | refine zs ?_ | intro _)); all_goals (try (conv => whnf))
        exact bool_end rfl
  · rw [decide_eq_false hh, Bool.false_and]
    have hno : (decide (t.C < 1) || (decide (t.D < t.C) || (decide (t.T < t.D) || (decide (t.T > 200) || decide (((t.secs.map eS).length : Int) > 2))))) = true := head_no hh
    refine Fn.run k44 rfl ?_
    generalize Tryz.prog = P at *
    (repeat' ((conv => whnf); first | exact trivial | with_reducible refine zX ?_ | refine ⟨rfl, ?_⟩ | refine ⟨_, rfl, ?_⟩ | with_reducible refine zP ?_ | with_reducible refine zL ?_ | refine ⟨fun _ => ?_, fun _ => ?_⟩ | refine zn ?_ | refine zb rfl ?_ | refine zX ?_ | refine zo rfl ?_ | refine zs ?_ | intro _)); all_goals (try (conv => whnf))
    all_goals first
      | exact bool_end rfl
      | (exfalso
         have e1 : decide (t.C < 1) = false := by assumption
         have e2 : decide (t.D < t.C) = false := by assumption
         have e3 : decide (t.T < t.D) = false := by assumption
         have e4 : decide (t.T > 200) = false := by assumption
         have e5 : decide (((t.secs.map eS).length : Int) > 2) = false := by assumption
         rw [e1, e2, e3, e4, e5] at hno
         exact absurd hno (by decide))
end Go.Proofs.YtkjghcbnmipgfaaGreatDoor.Vc
