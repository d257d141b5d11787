/- Part of a proof over a Go program: Ls8d. No condition. -/
import Derived.Test.YtoepoghmeajocaaGreatDoorQ16
set_option linter.unnecessarySimpa false
set_option linter.unusedSectionVars false
set_option linter.unusedSimpArgs false
set_option linter.unusedVariables false
set_option maxRecDepth 1000000
namespace Go.Proofs.YtoepoghmeajocaaGreatDoor.Vc
open Go.RowKit
def extS (c a b : Int) (n : Nat) (f : FuncId) (args : List DV) (bs : List Box) : Option (List (Option Box) × DV) :=
  bif Nat.beq f 27 && allB dvB args [.addr 0 6 0 0, .p tk8] then go n else none
where
  go : Nat → Option (List (Option Box) × DV)
  | 0 => none
  | j + 1 => bif allB boxB (somes bs) (somes (st8 c a b j true)) then some (somes (st8 c a b (j + 1) false), .tup [.p (.int .i64 (j + 1 : Nat)), .p (.int .i64 0)]) else go j
theorem somes_inj : ∀ {l m : List Box}, somes l = somes m → l = m
  | [], [], _ => rfl
  | [], _ :: _, h => by simp [somes] at h
  | _ :: _, [], h => by simp [somes] at h
  | x :: l, y :: m, h => by simp only [somes, List.cons.injEq, Option.some.injEq] at h; rw [h.1, somes_inj h.2]
theorem extS_ok {c a b : Int} {n : Nat} (h : ∀ j, j < n → Adds8 c a b j) (f : FuncId) (args : List DV) (bs : List Box) (bs' : List (Option Box)) (d : DV) (hd : extS c a b n f args bs = some (bs', d)) : OCall Tryz.prog f args bs bs' d := by
  unfold extS at hd
  cases hf : Nat.beq f 27 && allB dvB args [.addr 0 6 0 0, .p tk8] with
  | false => rw [hf] at hd; cases hd
  | true =>
    rw [hf] at hd
    simp only [Bool.and_eq_true] at hf
    have h1 := Nat.eq_of_beq_eq_true hf.1
    have h2 := allB_ok dvB_ok hf.2
    subst h1; subst h2
    simp only [cond_true] at hd
    have : ∀ m, m ≤ n → extS.go c a b bs m = some (bs', d) → ∃ j, j < n ∧ bs = st8 c a b j true ∧ bs' = somes (st8 c a b (j + 1) false) ∧ d = .tup [.p (.int .i64 (j + 1 : Nat)), .p (.int .i64 0)] := by
      intro m
      induction m with
      | zero => intro _ h; simp [extS.go] at h
      | succ m ih =>
        intro hm h
        simp only [extS.go] at h
        cases hb : allB boxB (somes bs) (somes (st8 c a b m true)) with
        | false => rw [hb] at h; exact ih (by omega) h
        | true =>
          rw [hb] at h
          simp only [cond_true, Option.some.injEq, Prod.mk.injEq] at h
          exact ⟨m, by omega, somes_inj (allB_ok boxB_ok hb), h.1.symm, h.2.symm⟩
    obtain ⟨j, hj, rfl, rfl, rfl⟩ := this n (Nat.le_refl _) hd
    exact envS_ok.callO _ _ _ _ _ (h j hj)
/-- The last run: steps by the table, where it tells one. -/
noncomputable def envL (c a b : Int) (n : Nat) : Env := { envS with callO := fun f args bs => match extS c a b n f args bs with
  | some r => some r
  | none => envS.callO f args bs }
theorem envL_ok {c a b : Int} {n : Nat} (h : ∀ j, j < n → Adds8 c a b j) : (envL c a b n).OK Tryz.prog := by
  refine ⟨fun f args d hd => envS_ok.call f args d hd, fun f size args rows rows' d hd => envS_ok.callM f size args rows rows' d hd, fun f args bs bs' d hd => ?_⟩
  simp only [envL] at hd
  split at hd
  · rename_i r hr
    injection hd with hd
    subst hd
    exact extS_ok h _ _ _ _ _ hr
  · exact envS_ok.callO _ _ _ _ _ hd
end Go.Proofs.YtoepoghmeajocaaGreatDoor.Vc
