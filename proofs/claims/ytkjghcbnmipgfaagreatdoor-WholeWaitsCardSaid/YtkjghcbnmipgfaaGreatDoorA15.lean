/- Part of a proof over a Go program: Cp. No condition. -/
import Derived.Test.YtkjghcbnmipgfaaGreatDoorA11
set_option linter.unusedSectionVars false
set_option linter.unusedSimpArgs false
set_option linter.unusedVariables false
set_option maxHeartbeats 4000000
set_option maxRecDepth 100000
namespace Go.Proofs.YtkjghcbnmipgfaaGreatDoor.Vc
open Go.RowKit Ma
theorem piece71 (c : Cf) (p : Pc) : PureCall Tryz.prog 71 [eCf c, eP p] (.p (.bool (p.ok c.cores))) := by
  have h := within68 p.off 0 200
  by_cases hh : p.ok c.cores = true
  · have hh' := hh
    rw [Pc.ok_iff] at hh'
    obtain ⟨⟨a1, a2⟩, ⟨a3, a4⟩, a5, a6, a7⟩ := hh'
    have b1 : decide (p.core ≥ 0) = true := decide_eq_true a1
    have b2 : decide (p.core < c.cores) = true := decide_eq_true a2
    have b3 : (decide (0 ≤ p.off) && decide (p.off ≤ 200)) = true := by simp [a3, a4]
    have b4 : decide (p.c ≥ 1) = true := decide_eq_true a5
    have b5 : decide (p.c ≤ p.len) = true := decide_eq_true a6
    have b6 : decide (p.len ≤ 200) = true := decide_eq_true (by omega)
    have b7 : decide (IntKind.wrap .i64 (p.off + p.len) ≤ 200) = true := decide_eq_true (by rw [wrapE (by omega) (by omega)]; omega)
    rw [b3] at h
    rw [hh]
    refine Fn.run k71 rfl ?_
    generalize Tryz.prog = P at *
    (repeat' ((conv => whnf); first | exact trivial | with_reducible refine zX ?_ | refine ⟨rfl, ?_⟩ | refine ⟨_, rfl, ?_⟩ | with_reducible refine zP ?_ | with_reducible refine zL ?_ | refine ⟨fun _ => ?_, fun _ => ?_⟩ | refine zn ?_ | refine zb rfl ?_ | refine zX ?_ | refine zo rfl ?_ | refine zs ?_ | intro _)); all_goals (try (conv => whnf))
    all_goals first | exact bool_end rfl | exact bool_end (by assumption)
  · have hf : p.ok c.cores = false := by simpa using hh
    rw [hf]
    have hno : (!decide (p.core ≥ 0) || (!decide (p.core < c.cores) || (!(decide (0 ≤ p.off) && decide (p.off ≤ 200)) || (!decide (p.c ≥ 1) || (!decide (p.c ≤ p.len) || (!decide (p.len ≤ 200) || !decide (IntKind.wrap .i64 (p.off + p.len) ≤ 200))))))) = true := by
      rw [Pc.ok_iff] at hh
      by_cases g : (0 ≤ p.off ∧ p.off ≤ 200) ∧ 1 ≤ p.c ∧ p.c ≤ p.len ∧ p.len ≤ 200
      · rw [wrapE (n := p.off + p.len) (by omega) (by omega)]
        simp only [Bool.or_eq_true, Bool.not_eq_true', decide_eq_false_iff_not, Bool.and_eq_false_iff]
        omega
      · simp only [Bool.or_eq_true, Bool.not_eq_true', decide_eq_false_iff_not, Bool.and_eq_false_iff]
        omega
    generalize (decide (0 ≤ p.off) && decide (p.off ≤ 200)) = y3 at *
    refine Fn.run k71 rfl ?_
    generalize Tryz.prog = P at *
    (repeat' ((conv => whnf); first | exact trivial | with_reducible refine zX ?_ | refine ⟨rfl, ?_⟩ | refine ⟨_, rfl, ?_⟩ | with_reducible refine zP ?_ | with_reducible refine zL ?_ | refine ⟨fun _ => ?_, fun _ => ?_⟩ | refine zn ?_ | refine zb rfl ?_ | refine zX ?_ | refine zo rfl ?_ | refine zs ?_ | intro _)); all_goals (try (conv => whnf))
    all_goals first
      | exact bool_end rfl
      | exact bool_end (by assumption)
      | (refine bool_end ?_; simp_all; done)
theorem piece62 (c : Cf) (p : Pc) : PureCall Tryz.prog 62 [eCf c, eP p] (.p (.bool (p.ok c.cores))) := by
  have h := in65 p.off 0 200
  have h2 := in65 p.len p.c (IntKind.wrap .i64 (200 - p.off))
  by_cases g : 0 ≤ p.off ∧ p.off ≤ 200
  · have hw : IntKind.wrap .i64 (200 - p.off) = 200 - p.off := wrapE (by omega) (by omega)
    have b3 : (decide (0 ≤ p.off) && decide (p.off ≤ 200)) = true := by simp [g.1, g.2]
    rw [b3] at h
    have hok : p.ok c.cores = (decide (p.core ≥ 0) && (decide (p.core < c.cores) && (decide (p.c ≥ 1) && (decide (p.c ≤ p.len) && decide (p.len ≤ IntKind.wrap .i64 (200 - p.off)))))) := by
      rw [Bool.eq_iff_iff, Pc.ok_iff, hw]
      simp only [Bool.and_eq_true, decide_eq_true_eq]
      omega
    rw [hok]
    generalize (decide (p.c ≤ p.len) && decide (p.len ≤ IntKind.wrap .i64 (200 - p.off))) = y5 at *
    refine Fn.run k62 rfl ?_
    generalize Tryz.prog = P at *
    (repeat' ((conv => whnf); first | exact trivial | with_reducible refine zX ?_ | refine ⟨rfl, ?_⟩ | refine ⟨_, rfl, ?_⟩ | with_reducible refine zP ?_ | with_reducible refine zL ?_ | refine ⟨fun _ => ?_, fun _ => ?_⟩ | refine zn ?_ | refine zb rfl ?_ | refine zX ?_ | refine zo rfl ?_ | refine zs ?_ | intro _)); all_goals (try (conv => whnf))
    all_goals (refine bool_end ?_; simp_all <;> (intros; omega))
  · have b3 : (decide (0 ≤ p.off) && decide (p.off ≤ 200)) = false := by simp; omega
    rw [b3] at h
    have hok : p.ok c.cores = false := by
      refine Bool.eq_false_iff.2 fun e => ?_
      rw [Pc.ok_iff] at e
      omega
    rw [hok]
    refine Fn.run k62 rfl ?_
    generalize Tryz.prog = P at *
    (repeat' ((conv => whnf); first | exact trivial | with_reducible refine zX ?_ | refine ⟨rfl, ?_⟩ | refine ⟨_, rfl, ?_⟩ | with_reducible refine zP ?_ | with_reducible refine zL ?_ | refine ⟨fun _ => ?_, fun _ => ?_⟩ | refine zn ?_ | refine zb rfl ?_ | refine zX ?_ | refine zo rfl ?_ | refine zs ?_ | intro _)); all_goals (try (conv => whnf))
    all_goals exact bool_end rfl
end Go.Proofs.YtkjghcbnmipgfaaGreatDoor.Vc
