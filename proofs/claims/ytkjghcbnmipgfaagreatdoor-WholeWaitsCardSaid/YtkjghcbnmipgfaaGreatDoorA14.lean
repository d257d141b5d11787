/- Part of a proof over a Go program: Cu. No condition. -/
import Derived.Test.YtkjghcbnmipgfaaGreatDoorA13
import Derived.Test.YtkjghcbnmipgfaaGreatDoorA12
set_option linter.unusedSectionVars false
set_option linter.unusedSimpArgs false
set_option linter.unusedVariables false
set_option maxHeartbeats 4000000
set_option maxRecDepth 100000
namespace Go.Proofs.YtkjghcbnmipgfaaGreatDoor.Vc
open Go.RowKit Ma
def Tk.cut (t : Tk) : Tk := ⟨t.C, t.D, t.T, (t.secs.take 4).isEmpty, t.secs.take 4⟩
theorem task43 (c : Tk) : PureCall Tryz.prog 43 [eT c] (.p (eT c.cut)) := by
  have hm := maxLen_eq
  obtain ⟨f1, f2, f3⟩ := mn_facts 4 (c.secs.map eS)
  have hlen : ((c.secs.map eS).take 4).length ≤ 4 := by simp; omega
  have hA1 : (([] : List PV).length + ((c.secs.map eS).take (if ((4 : Nat) : Int) < ((c.secs.map eS).length : Int) then ((4 : Nat) : Int) else ((c.secs.map eS).length : Int)).toNat).length) * 24 ≤ 140737488355328 := by rw [f3]; simp only [List.length_nil]; omega
  have hA2 : ([] : List PV).length + ((c.secs.map eS).take (if ((4 : Nat) : Int) < ((c.secs.map eS).length : Int) then ((4 : Nat) : Int) else ((c.secs.map eS).length : Int)).toNat).length ≤ maxLen := by rw [f3]; simp only [List.length_nil]; omega
  refine Fn.run k43 rfl ?_
  generalize Tryz.prog = P at *
  (repeat' ((conv => whnf); first | exact trivial | with_reducible refine zX ?_ | refine ⟨rfl, ?_⟩ | refine ⟨_, rfl, ?_⟩ | with_reducible refine zP ?_ | with_reducible refine zL ?_ | refine ⟨fun _ => ?_, fun _ => ?_⟩ | refine zn ?_ | refine zb rfl ?_ | refine zX ?_ | refine zo rfl ?_ | refine zs ?_ | intro _)); all_goals (try (conv => whnf))
  rw [mn_take 4 4 rfl, ← List.map_take, isEmpty_map]
  rfl
theorem one21 (c : Cf) (t : Tk) (hl : c.res.length ≤ 1000) : PureCall Tryz.prog 21 [eCf c, eT t] (.tup [.p (eT t.cut), .p (.bool (t.cut.ok c.res.length))]) := by
  have h1 := task43 t
  have h2 := task44 c t.cut (by simp [Tk.cut]; omega) hl
  generalize t.cut = d at *
  generalize d.ok c.res.length = y at *
  simp only [eCf, eT] at *
  refine Fn.run k21 rfl ?_
  generalize Tryz.prog = P at *
  (repeat' ((conv => whnf); first | exact trivial | with_reducible refine zX ?_ | refine ⟨rfl, ?_⟩ | refine ⟨_, rfl, ?_⟩ | with_reducible refine zP ?_ | with_reducible refine zL ?_ | refine ⟨fun _ => ?_, fun _ => ?_⟩ | refine zn ?_ | refine zb rfl ?_ | refine zX ?_ | refine zo rfl ?_ | refine zs ?_ | intro _)); all_goals (try (conv => whnf))
  all_goals rfl
end Go.Proofs.YtkjghcbnmipgfaaGreatDoor.Vc
