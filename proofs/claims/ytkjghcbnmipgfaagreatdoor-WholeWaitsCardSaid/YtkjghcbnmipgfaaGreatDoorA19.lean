/- Part of a proof over a Go program: Cs. No condition. -/
import Derived.Test.YtkjghcbnmipgfaaGreatDoorA18
import Derived.Test.YtkjghcbnmipgfaaGreatDoorA05
import Derived.Test.YtkjghcbnmipgfaaGreatDoorA07
set_option linter.unusedSectionVars false
set_option linter.unusedSimpArgs false
set_option linter.unusedVariables false
set_option maxHeartbeats 4000000
set_option maxRecDepth 100000
namespace Go.Proofs.YtkjghcbnmipgfaaGreatDoor.Vc
open Go.RowKit Ma
def tblS : Tbl := [(96, F96), (119, F119)]
theorem tblS_ok : TblOK Tryz.prog tblS := .cons k96 <| .cons k119 <| .nil
def envS : Env := runE (fun _ _ => none) tblS 20
theorem envS_ok : envS.OK Tryz.prog := runE_ok (fun f a d h => by cases h) tblS_ok
theorem len96 (n : Nat) (h : n ≤ 12) : ∃ v : Int, PureCall Tryz.prog 96 [.int .u64 (IntKind.wrap .u64 n)] (.p (.int .i64 v)) := by
  match n, h with
  | 0, _ => exact ⟨0, envS_ok.call 96 [.int .u64 (IntKind.wrap .u64 (0 : Nat))] _ (by kernel_rfl)⟩
  | 1, _ => exact ⟨1, envS_ok.call 96 [.int .u64 (IntKind.wrap .u64 (1 : Nat))] _ (by kernel_rfl)⟩
  | 2, _ => exact ⟨2, envS_ok.call 96 [.int .u64 (IntKind.wrap .u64 (2 : Nat))] _ (by kernel_rfl)⟩
  | 3, _ => exact ⟨2, envS_ok.call 96 [.int .u64 (IntKind.wrap .u64 (3 : Nat))] _ (by kernel_rfl)⟩
  | 4, _ => exact ⟨3, envS_ok.call 96 [.int .u64 (IntKind.wrap .u64 (4 : Nat))] _ (by kernel_rfl)⟩
  | 5, _ => exact ⟨3, envS_ok.call 96 [.int .u64 (IntKind.wrap .u64 (5 : Nat))] _ (by kernel_rfl)⟩
  | 6, _ => exact ⟨3, envS_ok.call 96 [.int .u64 (IntKind.wrap .u64 (6 : Nat))] _ (by kernel_rfl)⟩
  | 7, _ => exact ⟨3, envS_ok.call 96 [.int .u64 (IntKind.wrap .u64 (7 : Nat))] _ (by kernel_rfl)⟩
  | 8, _ => exact ⟨4, envS_ok.call 96 [.int .u64 (IntKind.wrap .u64 (8 : Nat))] _ (by kernel_rfl)⟩
  | 9, _ => exact ⟨4, envS_ok.call 96 [.int .u64 (IntKind.wrap .u64 (9 : Nat))] _ (by kernel_rfl)⟩
  | 10, _ => exact ⟨4, envS_ok.call 96 [.int .u64 (IntKind.wrap .u64 (10 : Nat))] _ (by kernel_rfl)⟩
  | 11, _ => exact ⟨4, envS_ok.call 96 [.int .u64 (IntKind.wrap .u64 (11 : Nat))] _ (by kernel_rfl)⟩
  | 12, _ => exact ⟨4, envS_ok.call 96 [.int .u64 (IntKind.wrap .u64 (12 : Nat))] _ (by kernel_rfl)⟩
section
variable (lt : Ma.Place → Ma.Place → Bool) (f : FuncId) (cv : Ma.Place → Ma.Place → Int) (hf : ∀ a b, PureCall Tryz.prog f [eQ a, eQ b] (.p (.int .i64 (cv a b)))) (hlt : ∀ a b, decide (cv a b < 0) = lt a b) (l : List Ma.Place) (hl : l.length ≤ 12) (ag : Bool)
include hf hlt hl
theorem stable93 : MCall Tryz.prog 93 2 [.bs 0 2 ag 0 l.length, .p (.int .i64 l.length), .p (.fn f [])] (l.map rQ) ((isort lt l).map rQ) (.tup []) := by
  have h := insert109 lt f cv hf hlt l (by omega) ag
  have ha := allPR_Q l
  have ha2 := allPR_Q (isort lt l)
  have b1 : decide ((20 : Int) ≤ (l.length : Int)) = false := decide_eq_false (by omega)
  have b2 : decide ((20 : Int) < (l.length : Int)) = false := decide_eq_false (by omega)
  refine Fn.runM k93 rfl ha ha2 rfl (by decide) ?_
  generalize Tryz.prog = P at *
  (repeat' ((conv => whnf); first | exact trivial | with_reducible refine zX ?_ | refine ⟨rfl, ?_⟩ | refine ⟨_, rfl, ?_⟩ | with_reducible refine zP ?_ | with_reducible refine zL ?_ | refine ⟨fun _ => ?_, fun _ => ?_⟩ | refine zn ?_ | refine zb rfl ?_ | refine zX ?_ | refine zo rfl ?_ | refine zs ?_ | intro _)); all_goals (try (conv => whnf))
  refine ⟨1, ?_⟩
  (repeat' ((conv => whnf); first | exact trivial | with_reducible refine zX ?_ | refine ⟨rfl, ?_⟩ | refine ⟨_, rfl, ?_⟩ | with_reducible refine zP ?_ | with_reducible refine zL ?_ | refine ⟨fun _ => ?_, fun _ => ?_⟩ | refine zn ?_ | refine zb rfl ?_ | refine zX ?_ | refine zo rfl ?_ | refine zs ?_ | intro _)); all_goals (try (conv => whnf))
  refine ⟨_, _, h, ?_⟩
  (repeat' ((conv => whnf); first | exact trivial | with_reducible refine zX ?_ | refine ⟨rfl, ?_⟩ | refine ⟨_, rfl, ?_⟩ | with_reducible refine zP ?_ | with_reducible refine zL ?_ | refine ⟨fun _ => ?_, fun _ => ?_⟩ | refine zn ?_ | refine zb rfl ?_ | refine zX ?_ | refine zo rfl ?_ | refine zs ?_ | intro _)); all_goals (try (conv => whnf))
  refine ⟨1, ?_⟩
  (repeat' ((conv => whnf); first | exact trivial | with_reducible refine zX ?_ | refine ⟨rfl, ?_⟩ | refine ⟨_, rfl, ?_⟩ | with_reducible refine zP ?_ | with_reducible refine zL ?_ | refine ⟨fun _ => ?_, fun _ => ?_⟩ | refine zn ?_ | refine zb rfl ?_ | refine zX ?_ | refine zo rfl ?_ | refine zs ?_ | intro _)); all_goals (try (conv => whnf))
  all_goals rfl
theorem sort73 : MCall Tryz.prog 73 2 [.bs 0 2 ag 0 l.length, .p (.fn f [])] (l.map rQ) ((isort lt l).map rQ) (.tup []) := by
  have h := stable93 lt f cv hf hlt l hl ag
  have ha := allPR_Q l
  have ha2 := allPR_Q (isort lt l)
  refine Fn.runM k73 rfl ha ha2 rfl (by decide) ?_
  generalize Tryz.prog = P at *
  (repeat' ((conv => whnf); first | exact trivial | with_reducible refine zX ?_ | refine ⟨rfl, ?_⟩ | refine ⟨_, rfl, ?_⟩ | with_reducible refine zP ?_ | with_reducible refine zL ?_ | refine ⟨fun _ => ?_, fun _ => ?_⟩ | refine zn ?_ | refine zb rfl ?_ | refine zX ?_ | refine zo rfl ?_ | refine zs ?_ | intro _)); all_goals (try (conv => whnf))
  refine ⟨_, _, h, ?_⟩
  (repeat' ((conv => whnf); first | exact trivial | with_reducible refine zX ?_ | refine ⟨rfl, ?_⟩ | refine ⟨_, rfl, ?_⟩ | with_reducible refine zP ?_ | with_reducible refine zL ?_ | refine ⟨fun _ => ?_, fun _ => ?_⟩ | refine zn ?_ | refine zb rfl ?_ | refine zX ?_ | refine zo rfl ?_ | refine zs ?_ | intro _)); all_goals (try (conv => whnf))
  all_goals rfl
theorem pdq95 (v : Int) : MCall Tryz.prog 95 2 [.bs 0 2 ag 0 l.length, .p (.int .i64 0), .p (.int .i64 l.length), .p (.int .i64 v), .p (.fn f [])] (l.map rQ) ((isort lt l).map rQ) (.tup []) := by
  have h := insert109 lt f cv hf hlt l (by omega) ag
  have ha := allPR_Q l
  have ha2 := allPR_Q (isort lt l)
  have b1 : decide (IntKind.wrap .i64 ((l.length : Int) - 0) ≤ (12 : Int)) = true := decide_eq_true (by rw [wrapE (by omega) (by omega)]; omega)
  refine Fn.runM k95 rfl ha ha2 rfl (by decide) ?_
  generalize Tryz.prog = P at *
  (repeat' ((conv => whnf); first | exact trivial | with_reducible refine zX ?_ | refine ⟨rfl, ?_⟩ | refine ⟨_, rfl, ?_⟩ | with_reducible refine zP ?_ | with_reducible refine zL ?_ | refine ⟨fun _ => ?_, fun _ => ?_⟩ | refine zn ?_ | refine zb rfl ?_ | refine zX ?_ | refine zo rfl ?_ | refine zs ?_ | intro _)); all_goals (try (conv => whnf))
  refine ⟨1, ?_⟩
  (repeat' ((conv => whnf); first | exact trivial | with_reducible refine zX ?_ | refine ⟨rfl, ?_⟩ | refine ⟨_, rfl, ?_⟩ | with_reducible refine zP ?_ | with_reducible refine zL ?_ | refine ⟨fun _ => ?_, fun _ => ?_⟩ | refine zn ?_ | refine zb rfl ?_ | refine zX ?_ | refine zo rfl ?_ | refine zs ?_ | intro _)); all_goals (try (conv => whnf))
  refine ⟨_, _, h, ?_⟩
  (repeat' ((conv => whnf); first | exact trivial | with_reducible refine zX ?_ | refine ⟨rfl, ?_⟩ | refine ⟨_, rfl, ?_⟩ | with_reducible refine zP ?_ | with_reducible refine zL ?_ | refine ⟨fun _ => ?_, fun _ => ?_⟩ | refine zn ?_ | refine zb rfl ?_ | refine zX ?_ | refine zo rfl ?_ | refine zs ?_ | intro _)); all_goals (try (conv => whnf))
  all_goals rfl
theorem sort76 : MCall Tryz.prog 76 2 [.bs 0 2 ag 0 l.length, .p (.fn f [])] (l.map rQ) ((isort lt l).map rQ) (.tup []) := by
  obtain ⟨v, h96⟩ := len96 l.length hl
  have h := pdq95 lt f cv hf hlt l hl ag v
  have ha := allPR_Q l
  have ha2 := allPR_Q (isort lt l)
  refine Fn.runM k76 rfl ha ha2 rfl (by decide) ?_
  generalize Tryz.prog = P at *
  (repeat' ((conv => whnf); first | exact trivial | with_reducible refine zX ?_ | refine ⟨rfl, ?_⟩ | refine ⟨_, rfl, ?_⟩ | with_reducible refine zP ?_ | with_reducible refine zL ?_ | refine ⟨fun _ => ?_, fun _ => ?_⟩ | refine zn ?_ | refine zb rfl ?_ | refine zX ?_ | refine zo rfl ?_ | refine zs ?_ | intro _)); all_goals (try (conv => whnf))
  refine ⟨_, _, h, ?_⟩
  (repeat' ((conv => whnf); first | exact trivial | with_reducible refine zX ?_ | refine ⟨rfl, ?_⟩ | refine ⟨_, rfl, ?_⟩ | with_reducible refine zP ?_ | with_reducible refine zL ?_ | refine ⟨fun _ => ?_, fun _ => ?_⟩ | refine zn ?_ | refine zb rfl ?_ | refine zX ?_ | refine zo rfl ?_ | refine zs ?_ | intro _)); all_goals (try (conv => whnf))
  all_goals rfl
end
theorem byX (l : List Ma.Place) (hl : l.length ≤ 12) (ag : Bool) : MCall Tryz.prog 73 2 [.bs 0 2 ag 0 l.length, .p (.fn 74 [])] (l.map rQ) ((isort ltX l).map rQ) (.tup []) :=
  sort73 ltX 74 (fun a b => cmpV b.x a.x) byX74 (fun a b => cmpV_neg _ _) l hl ag
theorem byC (l : List Ma.Place) (hl : l.length ≤ 12) (ag : Bool) : MCall Tryz.prog 76 2 [.bs 0 2 ag 0 l.length, .p (.fn 77 [])] (l.map rQ) ((isort ltC l).map rQ) (.tup []) :=
  sort76 ltC 77 (fun a b => cmpV a.core b.core) byC77 (fun a b => cmpV_neg _ _) l hl ag
end Go.Proofs.YtkjghcbnmipgfaaGreatDoor.Vc
