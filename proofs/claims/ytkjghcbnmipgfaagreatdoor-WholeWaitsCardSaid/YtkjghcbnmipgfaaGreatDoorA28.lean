/- Part of a proof over a Go program: Beg. No condition. -/
import Derived.Test.YtkjghcbnmipgfaaGreatDoorA27
set_option linter.unusedSectionVars false
set_option linter.unusedSimpArgs false
set_option linter.unusedVariables false
set_option maxRecDepth 1000000
namespace Go.Proofs.YtkjghcbnmipgfaaGreatDoor.Vc
open Go.RowKit
def Tbl.del (zs : List Nat) : Tbl → Tbl
  | [] => []
  | e :: t => if zs.contains e.1 then Tbl.del zs t else e :: Tbl.del zs t
theorem Tbl.del_get {zs : List Nat} {t : Tbl} {f : Nat} (hf : zs.contains f = false) : (Tbl.del zs t).get f = t.get f := by
  induction t with
  | nil => rfl
  | cons e t ih =>
    obtain ⟨k, F⟩ := e
    simp only [Tbl.del]
    split
    · rename_i h
      simp only [Tbl.get]
      split
      · rename_i hk
        have := Nat.eq_of_beq_eq_true hk
        subst this
        rw [hf] at h; cases h
      · exact ih
    · simp only [Tbl.get]
      split
      · rfl
      · exact ih
theorem Tbl.del_none {zs : List Nat} {t : Tbl} {f : Nat} (hf : zs.contains f = true) : (Tbl.del zs t).get f = none := by
  induction t with
  | nil => rfl
  | cons e t ih =>
    obtain ⟨k, F⟩ := e
    simp only [Tbl.del]
    split
    · exact ih
    · rename_i h
      simp only [Tbl.get]
      split
      · rename_i hk
        have := Nat.eq_of_beq_eq_true hk
        subst this
        exact absurd hf h
      · exact ih
theorem TblOK.del {P : Program} {t : Tbl} (h : TblOK P t) (zs : List Nat) : TblOK P (Tbl.del zs t) := by
  refine ⟨fun f F hf => ?_⟩
  cases hc : zs.contains f with
  | true => rw [Tbl.del_none hc] at hf; cases hf
  | false => rw [Tbl.del_get hc] at hf; exact h.all f F hf
def extQ (zs : List Nat) (f : FuncId) (args : List PV) : Option DV :=
  match args with
  | [] => if zs.contains f then some (.p (.bool true)) else extP f args
  | _ => extP f args
theorem extQ_ok {zs : List Nat} (h : ∀ z, z ∈ zs → PureCall Tryz.prog z [] (.p (.bool true))) (f : FuncId) (args : List PV) (d : DV) (hd : extQ zs f args = some d) : PureCall Tryz.prog f args d := by
  unfold extQ at hd
  split at hd
  · split at hd
    · rename_i hc
      injection hd with hd
      subst hd
      exact h f (by simpa using hc)
    · exact extP_ok _ _ _ hd
  · exact extP_ok _ _ _ hd
def envQ (zs : List Nat) (n : Nat) : Env := runE (extQ zs) (Tbl.del zs tblP) n
theorem envQ_ok {zs : List Nat} (h : ∀ z, z ∈ zs → PureCall Tryz.prog z [] (.p (.bool true))) (n : Nat) : (envQ zs n).OK Tryz.prog := runE_ok (extQ_ok h) (tblP_ok.del zs)
theorem begun144 : PureCall Tryz.prog 144 [] (.p (.bool true)) := (envP_ok 60).call 144 [] (.p (.bool true)) (by kernel_rfl)
theorem begun124 : PureCall Tryz.prog 124 [] (.p (.bool true)) := (envQ_ok (zs := [144]) (fun z hz => by simp at hz; subst hz; exact begun144) 100).call 124 [] (.p (.bool true)) (by kernel_rfl)
theorem begun82 : PureCall Tryz.prog 82 [] (.p (.bool true)) := (envQ_ok (zs := [124]) (fun z hz => by simp at hz; subst hz; exact begun124) 100).call 82 [] (.p (.bool true)) (by kernel_rfl)
theorem begun40 : PureCall Tryz.prog 40 [] (.p (.bool true)) := (envQ_ok (zs := [82]) (fun z hz => by simp at hz; subst hz; exact begun82) 100).call 40 [] (.p (.bool true)) (by kernel_rfl)
theorem begun18 : PureCall Tryz.prog 18 [] (.p (.bool true)) := (envQ_ok (zs := [40]) (fun z hz => by simp at hz; subst hz; exact begun40) 100).call 18 [] (.p (.bool true)) (by kernel_rfl)
end Go.Proofs.YtkjghcbnmipgfaaGreatDoor.Vc
