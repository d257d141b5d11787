/- Part of a proof over a Go program: Ca, Cb, Fn1, MaSort, MaWin, MaPlan, MaPick, Cc. No condition. -/
import Derived.Test.YtoepoghmeajocaaGreatDoorQ10
import Derived.Test.YtoepoghmeajocaaGreatDoorQ11
import Derived.Test.YtoepoghmeajocaaGreatDoorProg
set_option linter.unnecessarySimpa false
set_option linter.unusedSectionVars false
set_option linter.unusedSimpArgs false
set_option linter.unusedVariables false
set_option maxRecDepth 100000
namespace Go.Proofs.YtoepoghmeajocaaGreatDoor.Vc
open Go.RowKit Ma
def eL (x : Ld) : PV := .agg [.int .i64 x.c, .int .i64 x.d, .int .i64 x.t]
def sL (nl : Bool) (l : List Ld) : PV := .sl 3 nl (l.map eL)
theorem bool_end {a b : Bool} (h : a = b) : resOf [TV.p (.bool a)] = DV.p (.bool b) := by subst h; rfl
theorem int_end {a b : Int} (h : a = b) : resOf [TV.p (.int .i64 a)] = DV.p (.int .i64 b) := by subst h; rfl
theorem lt_t {i n : Nat} (h : i < n) : decide ((i : Int) < (n : Int)) = true := by simp [h]
theorem lt_f {i n : Nat} (h : ¬ i < n) : decide ((i : Int) < (n : Int)) = false := by simp; omega
theorem next1 {i : Nat} {n : Nat} (h : i < n) (hn : n ≤ maxLen) : IntKind.wrap .i64 ((i : Int) + 1) = ((i + 1 : Nat) : Int) := by
 have : maxLen = 9223372036854775807 := by decide
 rw [wrapE (by omega) (by omega)]; omega
theorem in65 (n a b : Int) : PureCall Tryz.prog 93 [.int .i64 n, .int .i64 a, .int .i64 b] (.p (.bool (decide (a ≤ n) && decide (n ≤ b)))) := by
 refine Fn.run k93 rfl ?_
 generalize Tryz.prog = P
 (repeat' ((conv => whnf); first | exact trivial | with_reducible refine zX ?_ | refine ⟨rfl, ?_⟩ | refine ⟨_, rfl, ?_⟩ | with_reducible refine zP ?_ | with_reducible refine zL ?_ | refine ⟨fun _ => ?_, fun _ => ?_⟩ | refine zn ?_ | refine zb rfl ?_ | refine zX ?_ | refine zo rfl ?_ | refine zs ?_ | intro _)); all_goals (try (conv => whnf))
 all_goals (refine bool_end (Bool.eq_iff_iff.2 ?_); simp only [Bool.and_eq_true, Bool.or_eq_true, Bool.and_eq_false_iff, Bool.or_eq_false_iff, decide_eq_true_eq, decide_eq_false_iff_not, Bool.not_eq_true', Bool.not_eq_false', Bool.false_eq_true, Bool.true_eq_false, Bool.not_true, Bool.not_false, ge_iff_le, gt_iff_lt] at *; first | done | omega | (simp only [false_iff]; omega) | (simp only [true_iff]; omega) | grind)
theorem within68 (n a b : Int) : PureCall Tryz.prog 95 [.int .i64 n, .int .i64 a, .int .i64 b] (.p (.bool (decide (a ≤ n) && decide (n ≤ b)))) := by
 refine Fn.run k95 rfl ?_
 generalize Tryz.prog = P
 (repeat' ((conv => whnf); first | exact trivial | with_reducible refine zX ?_ | refine ⟨rfl, ?_⟩ | refine ⟨_, rfl, ?_⟩ | with_reducible refine zP ?_ | with_reducible refine zL ?_ | refine ⟨fun _ => ?_, fun _ => ?_⟩ | refine zn ?_ | refine zb rfl ?_ | refine zX ?_ | refine zo rfl ?_ | refine zs ?_ | intro _)); all_goals (try (conv => whnf))
 all_goals (refine bool_end (Bool.eq_iff_iff.2 ?_); simp only [Bool.and_eq_true, Bool.or_eq_true, Bool.and_eq_false_iff, Bool.or_eq_false_iff, decide_eq_true_eq, decide_eq_false_iff_not, Bool.not_eq_true', Bool.not_eq_false', Bool.false_eq_true, Bool.true_eq_false, Bool.not_true, Bool.not_false, ge_iff_le, gt_iff_lt] at *; first | done | omega | (simp only [false_iff]; omega) | (simp only [true_iff]; omega) | grind)
theorem load106 (x : Ld) : PureCall Tryz.prog 142 [eL x] (.p (.bool x.ok)) := by
 have h := within68 x.c 1 20000
 refine Fn.run k142 rfl ?_
 generalize Tryz.prog = P at *
 (repeat' ((conv => whnf); first | exact trivial | with_reducible refine zX ?_ | refine ⟨rfl, ?_⟩ | refine ⟨_, rfl, ?_⟩ | with_reducible refine zP ?_ | with_reducible refine zL ?_ | refine ⟨fun _ => ?_, fun _ => ?_⟩ | refine zn ?_ | refine zb rfl ?_ | refine zX ?_ | refine zo rfl ?_ | refine zs ?_ | intro _)); all_goals (try (conv => whnf))
 all_goals (refine bool_end (Bool.eq_iff_iff.2 ?_); simp only [Ld.ok_iff, Bool.and_eq_true, Bool.or_eq_true, Bool.and_eq_false_iff, Bool.or_eq_false_iff, decide_eq_true_eq, decide_eq_false_iff_not, Bool.not_eq_true', Bool.not_eq_false', Bool.false_eq_true, Bool.true_eq_false, Bool.not_true, Bool.not_false, ge_iff_le, gt_iff_lt] at *; first | done | omega | (simp only [false_iff]; omega) | (simp only [true_iff]; omega) | grind)
theorem load120 (x : Ld) : PureCall Tryz.prog 165 [eL x] (.p (.bool x.ok)) := by
 have h := in65 x.c 1 20000
 refine Fn.run k165 rfl ?_
 generalize Tryz.prog = P at *
 (repeat' ((conv => whnf); first | exact trivial | with_reducible refine zX ?_ | refine ⟨rfl, ?_⟩ | refine ⟨_, rfl, ?_⟩ | with_reducible refine zP ?_ | with_reducible refine zL ?_ | refine ⟨fun _ => ?_, fun _ => ?_⟩ | refine zn ?_ | refine zb rfl ?_ | refine zX ?_ | refine zo rfl ?_ | refine zs ?_ | intro _)); all_goals (try (conv => whnf))
 all_goals (refine bool_end (Bool.eq_iff_iff.2 ?_); simp only [Ld.ok_iff, Bool.and_eq_true, Bool.or_eq_true, Bool.and_eq_false_iff, Bool.or_eq_false_iff, decide_eq_true_eq, decide_eq_false_iff_not, Bool.not_eq_true', Bool.not_eq_false', Bool.false_eq_true, Bool.true_eq_false, Bool.not_true, Bool.not_false, ge_iff_le, gt_iff_lt] at *; first | done | omega | (simp only [false_iff]; omega) | (simp only [true_iff]; omega) | grind)
theorem bad105 (x : Ld) : PureCall Tryz.prog 141 [eL x] (.p (.bool !x.ok)) := by
 have h := load106 x
 refine Fn.run k141 rfl ?_
 generalize Tryz.prog = P at *
 (repeat' ((conv => whnf); first | exact trivial | with_reducible refine zX ?_ | refine ⟨rfl, ?_⟩ | refine ⟨_, rfl, ?_⟩ | with_reducible refine zP ?_ | with_reducible refine zL ?_ | refine ⟨fun _ => ?_, fun _ => ?_⟩ | refine zn ?_ | refine zb rfl ?_ | refine zX ?_ | refine zo rfl ?_ | refine zs ?_ | intro _)); all_goals (try (conv => whnf))
 all_goals exact bool_end rfl
theorem bad107 (x : Ld) : PureCall Tryz.prog 144 [eL x] (.p (.bool !x.ok)) := by
 have h := load106 x
 refine Fn.run k144 rfl ?_
 generalize Tryz.prog = P at *
 (repeat' ((conv => whnf); first | exact trivial | with_reducible refine zX ?_ | refine ⟨rfl, ?_⟩ | refine ⟨_, rfl, ?_⟩ | with_reducible refine zP ?_ | with_reducible refine zL ?_ | refine ⟨fun _ => ?_, fun _ => ?_⟩ | refine zn ?_ | refine zb rfl ?_ | refine zX ?_ | refine zo rfl ?_ | refine zs ?_ | intro _)); all_goals (try (conv => whnf))
 all_goals exact bool_end rfl
def idxFrom {α : Type} (p : α → Bool) : List α → Int → Int
 | [], _ => -1
 | x :: xs, k => if p x then k else idxFrom p xs (k + 1)
theorem idxFrom_any {α : Type} {p : α → Bool} {l : List α} : ∀ {k : Int}, 0 ≤ k → (decide (0 ≤ idxFrom p l k) = l.any p) := by
 induction l with
 | nil => intro k _; simp [idxFrom]
 | cons x xs ih =>
  intro k hk
  simp only [idxFrom, List.any_cons]
  split
  ·rename_i h; simp [h, hk]
  ·rename_i h; simp [h, ih (show 0 ≤ k + 1 by omega)]
theorem index126 (nl : Bool) (l : List Ld) (f : FuncId) (caps : List PV) (p : Ld → Bool) (hp : ∀ x, x ∈ l → PureCall Tryz.prog f ([eL x] ++ caps) (.p (.bool (p x)))) :
  PureCall Tryz.prog 163 [sL nl l, .fn f caps] (.p (.int .i64 (idxFrom p l 0))) := by
 refine Fn.run k163 rfl ?_
 generalize Tryz.prog = P at *
 (repeat' ((conv => whnf); first | exact trivial | with_reducible refine zX ?_ | refine ⟨rfl, ?_⟩ | refine ⟨_, rfl, ?_⟩ | with_reducible refine zP ?_ | with_reducible refine zL ?_ | refine ⟨fun _ => ?_, fun _ => ?_⟩ | refine zn ?_ | refine zb rfl ?_ | refine zX ?_ | refine zo rfl ?_ | refine zs ?_ | intro _)); all_goals (try (conv => whnf))
 rename_i hlen
 refine loop_inv (fun n s => ∃ i : Nat, n + i = l.length ∧ idxFrom p (l.drop i) i = idxFrom p l 0 ∧ s = ⟨mkT 19 [(0, .p (sL nl l)), (1, .p (.fn f caps)), (7, .p (.int .i64 (l.map eL).length)), (8, .p (.int .i64 i))], []⟩) l.length ?_ ?_
 ·conv => whnf
  exact ⟨0, rfl, rfl, rfl⟩
 ·rintro n t b N ⟨i, hi, hI, e⟩ hN
  cases e
  by_cases hlt : i < l.length
  ·have hrow : (l.map eL)[i]? = some (eL l[i]) := by simp [hlt]
   have hb := lt_t (n := (l.map eL).length) (by simpa using hlt)
   have hc := hp l[i] (List.getElem_mem _)
   rw [List.drop_eq_getElem_cons hlt] at hI
   simp only [idxFrom] at hI
   (repeat' ((conv => whnf); first | exact trivial | with_reducible refine zX ?_ | refine ⟨rfl, ?_⟩ | refine ⟨_, rfl, ?_⟩ | with_reducible refine zP ?_ | with_reducible refine zL ?_ | refine ⟨fun _ => ?_, fun _ => ?_⟩ | refine zn ?_ | refine zb rfl ?_ | refine zX ?_ | refine zo rfl ?_ | refine zs ?_ | intro _)); all_goals (try (conv => whnf))
   ·rename_i e; rw [if_pos e] at hI; exact int_end hI
   ·rename_i e
    rw [next1 (by simpa using hlt) hlen]
    rw [if_neg (by rw [e]; decide)] at hI
    exact hN (n - 1) _ (by omega) ⟨i + 1, by omega, hI, rfl⟩
  ·have hb := lt_f (n := (l.map eL).length) (by simpa using hlt)
   (repeat' ((conv => whnf); first | exact trivial | with_reducible refine zX ?_ | refine ⟨rfl, ?_⟩ | refine ⟨_, rfl, ?_⟩ | with_reducible refine zP ?_ | with_reducible refine zL ?_ | refine ⟨fun _ => ?_, fun _ => ?_⟩ | refine zn ?_ | refine zb rfl ?_ | refine zX ?_ | refine zo rfl ?_ | refine zs ?_ | intro _)); all_goals (try (conv => whnf))
   rw [List.drop_of_length_le (by omega)] at hI
   exact int_end hI
theorem any104 (nl : Bool) (l : List Ld) (f : FuncId) (caps : List PV) (p : Ld → Bool) (hp : ∀ x, x ∈ l → PureCall Tryz.prog f ([eL x] ++ caps) (.p (.bool (p x)))) :
  PureCall Tryz.prog 140 [sL nl l, .fn f caps] (.p (.bool (l.any p))) := by
 have h := index126 nl l f caps p hp
 refine Fn.run k140 rfl ?_
 generalize Tryz.prog = P at *
 (repeat' ((conv => whnf); first | exact trivial | with_reducible refine zX ?_ | refine ⟨rfl, ?_⟩ | refine ⟨_, rfl, ?_⟩ | with_reducible refine zP ?_ | with_reducible refine zL ?_ | refine ⟨fun _ => ?_, fun _ => ?_⟩ | refine zn ?_ | refine zb rfl ?_ | refine zX ?_ | refine zo rfl ?_ | refine zs ?_ | intro _)); all_goals (try (conv => whnf))
 all_goals exact bool_end (idxFrom_any (Int.le_refl 0))
theorem may87 (nl : Bool) (l : List Ld) : PureCall Tryz.prog 113 [sL nl l] (.p (.bool (mayL l))) := by
 have h := any104 nl l 141 [] (fun x => !x.ok) fun x _ => bad105 x
 refine Fn.run k113 rfl ?_
 generalize Tryz.prog = P at *
 (repeat' ((conv => whnf); first | exact trivial | with_reducible refine zX ?_ | refine ⟨rfl, ?_⟩ | refine ⟨_, rfl, ?_⟩ | with_reducible refine zP ?_ | with_reducible refine zL ?_ | refine ⟨fun _ => ?_, fun _ => ?_⟩ | refine zn ?_ | refine zb rfl ?_ | refine zX ?_ | refine zo rfl ?_ | refine zs ?_ | intro _)); all_goals (try (conv => whnf))
 ·rename_i e
  refine bool_end ?_
  unfold mayL
  simp only [List.length_map, decide_eq_true_eq] at e
  have e' : l.length ≤ 24 := by omega
  simp [e', List.all_eq_not_any_not]
 ·rename_i e
  refine bool_end ?_
  unfold mayL
  simp only [List.length_map, Bool.not_true, decide_eq_false_iff_not] at e
  have e' : ¬ l.length ≤ 24 := by omega
  simp [e']
theorem up_law {a b : Int} (ha : 1 ≤ a) (hb : 1 ≤ b) : (if 0 < a.tmod b then a.tdiv b + 1 else a.tdiv b) = (a - 1) / b + 1 := by
 rw [Int.tdiv_eq_ediv_of_nonneg (by omega), Int.tmod_eq_emod_of_nonneg (by omega)]
 have e1 := Int.mul_ediv_add_emod a b
 have h1 := Int.emod_nonneg a (show b ≠ 0 by omega)
 have h2 := Int.emod_lt_of_pos a (show 0 < b by omega)
 split
 ·have : a - 1 = (a % b - 1) + b * (a / b) := by omega
  rw [this, Int.add_mul_ediv_left _ _ (by omega), Int.ediv_eq_zero_of_lt (a := a % b - 1) (b := b) (by omega) (by omega)]; omega
 ·have : a - 1 = (b - 1) + b * (a / b - 1) := by rw [Int.mul_sub]; omega
  rw [this, Int.add_mul_ediv_left _ _ (by omega), Int.ediv_eq_zero_of_lt (a := b - 1) (b := b) (by omega) (by omega)]; omega
theorem up103 (a b : Int) (ha : 1 ≤ a) (ha2 : a ≤ 20000) (hb : 1 ≤ b) : PureCall Tryz.prog 143 [.int .i64 a, .int .i64 b] (.p (.int .i64 ((a - 1) / b + 1))) := by
 have hl := up_law ha hb
 have hq : 0 ≤ a.tdiv b ∧ a.tdiv b ≤ a := by
  rw [Int.tdiv_eq_ediv_of_nonneg (by omega)]
  exact ⟨Int.ediv_nonneg (by omega) (by omega), Int.ediv_le_self _ (by omega)⟩
 have hb0 : decide (b ≤ 0) = false := decide_eq_false (by omega)
 have hbn : b ≠ 0 := by omega
 refine Fn.run k143 rfl ?_
 generalize Tryz.prog = P at *
 (repeat' ((conv => whnf); first | exact trivial | with_reducible refine zX ?_ | refine ⟨rfl, ?_⟩ | refine ⟨_, rfl, ?_⟩ | with_reducible refine zP ?_ | with_reducible refine zL ?_ | refine ⟨fun _ => ?_, fun _ => ?_⟩ | refine zn ?_ | refine zb rfl ?_ | refine zX ?_ | refine zo rfl ?_ | refine zs ?_ | intro _)); all_goals (try (conv => whnf))
 ·rename_i e
  refine int_end ?_
  rw [wrapE (n := a.tdiv b) (by omega) (by omega), wrapE (by omega) (by omega), ← hl, if_pos (of_decide_eq_true e)]
 ·rename_i e
  refine int_end ?_
  rw [wrapE (n := a.tdiv b) (by omega) (by omega), ← hl, if_neg (of_decide_eq_false e)]
theorem asked88 (nl : Bool) (l : List Ld) (t : Int) (hl : mayL l = true) (h1 : 1 ≤ t) (h2 : t ≤ 20000) : PureCall Tryz.prog 114 [sL nl l, .int .i64 t] (.p (.int .i64 (asked l t))) := by
 have hm := may87 nl l
 rw [hl] at hm
 have hup := fun b hb => up103 t b h1 h2 hb
 have ht0 : decide (t < 0) = false := decide_eq_false (by omega)
 have ht1 : decide (t > 20000) = false := decide_eq_false (by omega)
 have hl' := mayL_iff.1 hl
 refine Fn.run k114 rfl ?_
 generalize Tryz.prog = P at *
 (repeat' ((conv => whnf); first | exact trivial | with_reducible refine zX ?_ | refine ⟨rfl, ?_⟩ | refine ⟨_, rfl, ?_⟩ | with_reducible refine zP ?_ | with_reducible refine zL ?_ | refine ⟨fun _ => ?_, fun _ => ?_⟩ | refine zn ?_ | refine zb rfl ?_ | refine zX ?_ | refine zo rfl ?_ | refine zs ?_ | intro _)); all_goals (try (conv => whnf))
 rename_i hlen
 refine loop_inv (fun n s => ∃ (i : Nat) (acc : Int), n + i = l.length ∧ acc + sumL (ask1 t) (l.drop i) = asked l t ∧ 0 ≤ acc ∧ acc ≤ i * 400000000 ∧
  s = ⟨mkT 36 [(1, .p (.int .i64 t)), (5, .p (.int .i64 acc)), (19, .p (sL nl l)), (20, .p (.int .i64 (l.map eL).length)), (21, .p (.int .i64 i))], [none]⟩) l.length ?_ ?_
 ·conv => whnf
  exact ⟨0, 0, rfl, by simp [asked], Int.le_refl _, by omega, rfl⟩
 ·rintro n st b N ⟨i, acc, hi, hI, ha1, ha2, e⟩ hN
  cases e
  by_cases hlt : i < l.length
  ·have hrow : (l.map eL)[i]? = some (eL l[i]) := by simp [hlt]
   have hb := lt_t (n := (l.map eL).length) (by simpa using hlt)
   have hok := hl'.2 l[i] (List.getElem_mem _)
   have hc := hup l[i].t (by have := Ld.ok_iff.1 hok; omega)
   have hbd := ask1_bound hok h1 h2
   rw [List.drop_eq_getElem_cons hlt] at hI
   simp only [sumL] at hI
   (repeat' ((conv => whnf); first | exact trivial | with_reducible refine zX ?_ | refine ⟨rfl, ?_⟩ | refine ⟨_, rfl, ?_⟩ | with_reducible refine zP ?_ | with_reducible refine zL ?_ | refine ⟨fun _ => ?_, fun _ => ?_⟩ | refine zn ?_ | refine zb rfl ?_ | refine zX ?_ | refine zo rfl ?_ | refine zs ?_ | intro _)); all_goals (try (conv => whnf))
   rw [next1 (by simpa using hlt) hlen]
   have e1 : IntKind.wrap .i64 (l[i].c * ((t - 1) / l[i].t + 1)) = ask1 t l[i] := wrapE (by unfold ask1 at hbd; omega) (by unfold ask1 at hbd; omega)
   rw [e1, wrapE (by omega) (by omega)]
   exact hN (n - 1) _ (by omega) ⟨i + 1, acc + ask1 t l[i], by omega, by omega, by omega, by omega, rfl⟩
  ·have hb := lt_f (n := (l.map eL).length) (by simpa using hlt)
   (repeat' ((conv => whnf); first | exact trivial | with_reducible refine zX ?_ | refine ⟨rfl, ?_⟩ | refine ⟨_, rfl, ?_⟩ | with_reducible refine zP ?_ | with_reducible refine zL ?_ | refine ⟨fun _ => ?_, fun _ => ?_⟩ | refine zn ?_ | refine zb rfl ?_ | refine zX ?_ | refine zo rfl ?_ | refine zs ?_ | intro _)); all_goals (try (conv => whnf))
   rw [List.drop_of_length_le (by omega)] at hI
   simp only [sumL] at hI
   exact int_end (by omega)
theorem time66 (nl : Bool) (l : List Ld) : PureCall Tryz.prog 73 [sL nl l] (.tup [.p (.int .i64 (timeV l).1), .p (.bool (timeV l).2)]) := by
 have hm := may87 nl l
 cases hl : mayL l with
 | false =>
  rw [hl] at hm
  rw [timeV_bad hl]
  refine Fn.run k73 rfl ?_
  generalize Tryz.prog = P at *
  (repeat' ((conv => whnf); first | exact trivial | with_reducible refine zX ?_ | refine ⟨rfl, ?_⟩ | refine ⟨_, rfl, ?_⟩ | with_reducible refine zP ?_ | with_reducible refine zL ?_ | refine ⟨fun _ => ?_, fun _ => ?_⟩ | refine zn ?_ | refine zb rfl ?_ | refine zX ?_ | refine zo rfl ?_ | refine zs ?_ | intro _)); all_goals (try (conv => whnf))
  rfl
 | true =>
  rw [hl] at hm
  by_cases hn : l = []
  ·subst hn
   rw [timeV_nil]
   have hz : ((([] : List Ld).map eL).length : Int) == 0 := rfl
   refine Fn.run k73 rfl ?_
   generalize Tryz.prog = P at *
   (repeat' ((conv => whnf); first | exact trivial | with_reducible refine zX ?_ | refine ⟨rfl, ?_⟩ | refine ⟨_, rfl, ?_⟩ | with_reducible refine zP ?_ | with_reducible refine zL ?_ | refine ⟨fun _ => ?_, fun _ => ?_⟩ | refine zn ?_ | refine zb rfl ?_ | refine zX ?_ | refine zo rfl ?_ | refine zs ?_ | intro _)); all_goals (try (conv => whnf))
   rfl
  ·have hask := fun t h1 h2 => asked88 nl l t hl h1 h2
   have hz : (((l.map eL).length : Int) == 0) = false := by
    cases l with
    | nil => exact absurd rfl hn
    | cons x xs => simp; omega
   refine Fn.run k73 rfl ?_
   generalize Tryz.prog = P at *
   (repeat' ((conv => whnf); first | exact trivial | with_reducible refine zX ?_ | refine ⟨rfl, ?_⟩ | refine ⟨_, rfl, ?_⟩ | with_reducible refine zP ?_ | with_reducible refine zL ?_ | refine ⟨fun _ => ?_, fun _ => ?_⟩ | refine zn ?_ | refine zb rfl ?_ | refine zX ?_ | refine zo rfl ?_ | refine zs ?_ | intro _)); all_goals (try (conv => whnf))
   refine loop_inv (fun n s => ∃ t : Int, n = (20001 - t).toNat ∧ Seek l t ∧ s = ⟨mkT 22 [(0, .p (sL nl l)), (4, .p (.int .i64 t))], []⟩) 20000 ?_ ?_
   ·conv => whnf
    exact ⟨1, rfl, Seek.start hl hn, rfl⟩
   ·rintro n st b N ⟨t, hnn, hs, e⟩ hN
    cases e
    by_cases ht : t ≤ 20000
    ·have hc := hask t hs.lo ht
     have hb : decide (t ≤ 20000) = true := decide_eq_true ht
     (repeat' ((conv => whnf); first | exact trivial | with_reducible refine zX ?_ | refine ⟨rfl, ?_⟩ | refine ⟨_, rfl, ?_⟩ | with_reducible refine zP ?_ | with_reducible refine zL ?_ | refine ⟨fun _ => ?_, fun _ => ?_⟩ | refine zn ?_ | refine zb rfl ?_ | refine zX ?_ | refine zo rfl ?_ | refine zs ?_ | intro _)); all_goals (try (conv => whnf))
     ·rename_i e
      rw [hs.found ht (by simpa using e)]; rfl
     ·rename_i e
      have hx := hs.next ht (by simpa using e)
      exact hN _ _ (by omega) ⟨asked l t, rfl, hx.1, rfl⟩
    ·have hb : decide (t ≤ 20000) = false := decide_eq_false ht
     (repeat' ((conv => whnf); first | exact trivial | with_reducible refine zX ?_ | refine ⟨rfl, ?_⟩ | refine ⟨_, rfl, ?_⟩ | with_reducible refine zP ?_ | with_reducible refine zL ?_ | refine ⟨fun _ => ?_, fun _ => ?_⟩ | refine zn ?_ | refine zb rfl ?_ | refine zX ?_ | refine zo rfl ?_ | refine zs ?_ | intro _)); all_goals (try (conv => whnf))
     rw [hs.never ht]; rfl
theorem down_law {a b : Int} (hb : 1 ≤ b) : (if a.tmod b < 0 then a.tdiv b - 1 else a.tdiv b) = a / b := by
 have e1 := Int.mul_tdiv_add_tmod a b
 have h2 := Int.tmod_lt_of_pos a (show 0 < b by omega)
 have h3 : -b < a.tmod b := by
  have := Int.lt_tmod_of_pos a (show 0 < b by omega)
  omega
 split
 ·have : a = (a.tmod b + b) + b * (a.tdiv b - 1) := by rw [Int.mul_sub]; omega
  conv => rhs; rw [this]
  rw [Int.add_mul_ediv_left _ _ (by omega), Int.ediv_eq_zero_of_lt (a := a.tmod b + b) (b := b) (by omega) (by omega)]; omega
 ·have : a = a.tmod b + b * a.tdiv b := by omega
  conv => rhs; rw [this]
  rw [Int.add_mul_ediv_left _ _ (by omega), Int.ediv_eq_zero_of_lt (a := a.tmod b) (b := b) (by omega) (by omega)]; omega
theorem tdiv_small {a b : Int} (hb : 1 ≤ b) (h1 : -1000000 ≤ a) (h2 : a ≤ 1000000) : -1000000 ≤ a.tdiv b ∧ a.tdiv b ≤ 1000000 := by
 have := Int.natAbs_tdiv_le_natAbs a b
 omega
theorem down58 (a b : Int) (h1 : -1000000 ≤ a) (h2 : a ≤ 1000000) (hb : 1 ≤ b) : PureCall Tryz.prog 89 [.int .i64 a, .int .i64 b] (.p (.int .i64 (a / b))) := by
 have hl := down_law (a := a) hb
 have hq := tdiv_small hb h1 h2
 have hb0 : decide (b ≤ 0) = false := decide_eq_false (by omega)
 have hbn : b ≠ 0 := by omega
 refine Fn.run k89 rfl ?_
 generalize Tryz.prog = P at *
 (repeat' ((conv => whnf); first | exact trivial | with_reducible refine zX ?_ | refine ⟨rfl, ?_⟩ | refine ⟨_, rfl, ?_⟩ | with_reducible refine zP ?_ | with_reducible refine zL ?_ | refine ⟨fun _ => ?_, fun _ => ?_⟩ | refine zn ?_ | refine zb rfl ?_ | refine zX ?_ | refine zo rfl ?_ | refine zs ?_ | intro _)); all_goals (try (conv => whnf))
 ·rename_i e
  refine int_end ?_
  rw [wrapE (n := a.tdiv b) (by omega) (by omega), wrapE (by omega) (by omega), ← hl, if_pos (of_decide_eq_true e)]
 ·rename_i e
  refine int_end ?_
  rw [wrapE (n := a.tdiv b) (by omega) (by omega), ← hl, if_neg (of_decide_eq_false e)]
theorem due108 (x : Ld) (hx : x.ok = true) (t : Int) (h1 : 0 ≤ t) (h2 : t ≤ 20000) : PureCall Tryz.prog 145 [eL x, .int .i64 t] (.p (.int .i64 (due1 t x))) := by
 have hok := Ld.ok_iff.1 hx
 have hbd := due1_bound hx h2
 by_cases hd : x.d > t
 ·have hb : decide (x.d > t) = true := decide_eq_true hd
  refine Fn.run k145 rfl ?_
  generalize Tryz.prog = P at *
  (repeat' ((conv => whnf); first | exact trivial | with_reducible refine zX ?_ | refine ⟨rfl, ?_⟩ | refine ⟨_, rfl, ?_⟩ | with_reducible refine zP ?_ | with_reducible refine zL ?_ | refine ⟨fun _ => ?_, fun _ => ?_⟩ | refine zn ?_ | refine zb rfl ?_ | refine zX ?_ | refine zo rfl ?_ | refine zs ?_ | intro _)); all_goals (try (conv => whnf))
  exact int_end (by unfold due1; rw [if_pos hd])
 ·have hb : decide (x.d > t) = false := decide_eq_false hd
  have ht : IntKind.wrap .i64 (t - x.d) = t - x.d := wrapE (by omega) (by omega)
  have hdn := down58 (t - x.d) x.t (by omega) (by omega) (by omega)
  rw [← ht] at hdn
  have hq : 0 ≤ (t - x.d) / x.t ∧ (t - x.d) / x.t ≤ t - x.d := ⟨Int.ediv_nonneg (by omega) (by omega), Int.ediv_le_self _ (by omega)⟩
  unfold due1 at hbd ⊢
  rw [if_neg hd] at hbd ⊢
  refine Fn.run k145 rfl ?_
  generalize Tryz.prog = P at *
  (repeat' ((conv => whnf); first | exact trivial | with_reducible refine zX ?_ | refine ⟨rfl, ?_⟩ | refine ⟨_, rfl, ?_⟩ | with_reducible refine zP ?_ | with_reducible refine zL ?_ | refine ⟨fun _ => ?_, fun _ => ?_⟩ | refine zn ?_ | refine zb rfl ?_ | refine zX ?_ | refine zo rfl ?_ | refine zs ?_ | intro _)); all_goals (try (conv => whnf))
  refine int_end ?_
  rw [ht, wrapE (n := (t - x.d) / x.t + 1) (by omega) (by omega), wrapE (by omega) (by omega)]
theorem bound89 (nl : Bool) (l : List Ld) (t : Int) (hl : mayL l = true) (h1 : 0 ≤ t) (h2 : t ≤ 20000) : PureCall Tryz.prog 115 [sL nl l, .int .i64 t] (.p (.int .i64 (dueL l t))) := by
 have hm := any104 nl l 144 [] (fun x => !x.ok) fun x _ => bad107 x
 have hl' := mayL_iff.1 hl
 have ha : (l.any fun x => !x.ok) = false := by simpa using hl'.2
 rw [ha] at hm
 have hb24 : decide (((l.map eL).length : Int) > 24) = false := decide_eq_false (by simp; omega)
 have ht0 : decide (t < 0) = false := decide_eq_false (by omega)
 have ht1 : decide (t > 20000) = false := decide_eq_false (by omega)
 have hdue := fun x (hx : x.ok = true) => due108 x hx t h1 h2
 refine Fn.run k115 rfl ?_
 generalize Tryz.prog = P at *
 (repeat' ((conv => whnf); first | exact trivial | with_reducible refine zX ?_ | refine ⟨rfl, ?_⟩ | refine ⟨_, rfl, ?_⟩ | with_reducible refine zP ?_ | with_reducible refine zL ?_ | refine ⟨fun _ => ?_, fun _ => ?_⟩ | refine zn ?_ | refine zb rfl ?_ | refine zX ?_ | refine zo rfl ?_ | refine zs ?_ | intro _)); all_goals (try (conv => whnf))
 rename_i hlen
 refine loop_inv (fun n s => ∃ (i : Nat) (acc : Int), n + i = l.length ∧ acc + sumL (due1 t) (l.drop i) = dueL l t ∧ 0 ≤ acc ∧ acc ≤ i * 400000000 ∧
  s = ⟨mkT 38 [(1, .p (.int .i64 t)), (6, .p (.int .i64 acc)), (25, .p (sL nl l)), (26, .p (.int .i64 (l.map eL).length)), (27, .p (.int .i64 i))], [none]⟩) l.length ?_ ?_
 ·conv => whnf
  exact ⟨0, 0, rfl, by simp [dueL], Int.le_refl _, by omega, rfl⟩
 ·rintro n st b N ⟨i, acc, hi, hI, ha1, ha2, e⟩ hN
  cases e
  by_cases hlt : i < l.length
  ·have hrow : (l.map eL)[i]? = some (eL l[i]) := by simp [hlt]
   have hb := lt_t (n := (l.map eL).length) (by simpa using hlt)
   have hok := hl'.2 l[i] (List.getElem_mem _)
   have hc := hdue l[i] hok
   have hbd := due1_bound hok h2
   rw [List.drop_eq_getElem_cons hlt] at hI
   simp only [sumL] at hI
   (repeat' ((conv => whnf); first | exact trivial | with_reducible refine zX ?_ | refine ⟨rfl, ?_⟩ | refine ⟨_, rfl, ?_⟩ | with_reducible refine zP ?_ | with_reducible refine zL ?_ | refine ⟨fun _ => ?_, fun _ => ?_⟩ | refine zn ?_ | refine zb rfl ?_ | refine zX ?_ | refine zo rfl ?_ | refine zs ?_ | intro _)); all_goals (try (conv => whnf))
   rw [next1 (by simpa using hlt) hlen, wrapE (by omega) (by omega)]
   exact hN (n - 1) _ (by omega) ⟨i + 1, acc + due1 t l[i], by omega, by omega, by omega, by omega, rfl⟩
  ·have hb := lt_f (n := (l.map eL).length) (by simpa using hlt)
   (repeat' ((conv => whnf); first | exact trivial | with_reducible refine zX ?_ | refine ⟨rfl, ?_⟩ | refine ⟨_, rfl, ?_⟩ | with_reducible refine zP ?_ | with_reducible refine zL ?_ | refine ⟨fun _ => ?_, fun _ => ?_⟩ | refine zn ?_ | refine zb rfl ?_ | refine zX ?_ | refine zo rfl ?_ | refine zs ?_ | intro _)); all_goals (try (conv => whnf))
   rw [List.drop_of_length_le (by omega)] at hI
   simp only [sumL] at hI
   exact int_end (by omega)
theorem first67 (nl : Bool) (l : List Ld) : PureCall Tryz.prog 74 [sL nl l] (.tup [.p (.int .i64 (if (timeV l).2 then firstV l (timeV l).1 else 0)), .p (.bool ((timeV l).2 && decide (firstV l (timeV l).1 ≠ 0)))]) := by
 have htm := time66 nl l
 have hrange := timeV_range l
 generalize hT : timeV l = T at *
 obtain ⟨e0, ok⟩ := T
 cases ok with
 | false =>
  refine Fn.run k74 rfl ?_
  generalize Tryz.prog = P at *
  (repeat' ((conv => whnf); first | exact trivial | with_reducible refine zX ?_ | refine ⟨rfl, ?_⟩ | refine ⟨_, rfl, ?_⟩ | with_reducible refine zP ?_ | with_reducible refine zL ?_ | refine ⟨fun _ => ?_, fun _ => ?_⟩ | refine zn ?_ | refine zb rfl ?_ | refine zX ?_ | refine zo rfl ?_ | refine zs ?_ | intro _)); all_goals (try (conv => whnf))
  rfl
 | true =>
  have hl := (timeV_ok (by rw [hT])).1
  have hl' := mayL_iff.1 hl
  have hbnd := fun t h1 h2 => bound89 nl l t hl h1 h2
  simp only at hrange
  refine Fn.run k74 rfl ?_
  generalize Tryz.prog = P at *
  (repeat' ((conv => whnf); first | exact trivial | with_reducible refine zX ?_ | refine ⟨rfl, ?_⟩ | refine ⟨_, rfl, ?_⟩ | with_reducible refine zP ?_ | with_reducible refine zL ?_ | refine ⟨fun _ => ?_, fun _ => ?_⟩ | refine zn ?_ | refine zb rfl ?_ | refine zX ?_ | refine zo rfl ?_ | refine zs ?_ | intro _)); all_goals (try (conv => whnf))
  rename_i hlen
  refine loop_inv (fun n s => ∃ (i : Nat) (f : Int), n + i = l.length ∧ Look l e0 f (fun x _ => x ∈ l.take i) ∧ f ≤ e0 + 1 ∧
   s = ⟨mkT 45 [(0, .p (sL nl l)), (4, .p (.int .i64 e0)), (6, .p (.int .i64 f)), (19, .p (sL nl l)), (20, .p (.int .i64 (l.map eL).length)), (21, .p (.int .i64 i))], [none]⟩) l.length ?_ ?_
  ·conv => whnf
   refine ⟨0, e0 + 1, rfl, ⟨hl, .inl rfl, fun x _ k _ hx => by simp at hx⟩, Int.le_refl _, ?_⟩
   have hw : IntKind.wrap .i64 (e0 + 1) = e0 + 1 := wrapE (by omega) (by omega)
   rw [hw]; rfl
  ·rintro n st b N ⟨i, f, hi, hI, hf, e⟩ hN
   cases e
   by_cases hlt : i < l.length
   ·have hrow : (l.map eL)[i]? = some (eL l[i]) := by simp [hlt]
    have hb := lt_t (n := (l.map eL).length) (by simpa using hlt)
    have hok := Ld.ok_iff.1 (hl'.2 l[i] (List.getElem_mem _))
    (repeat' ((conv => whnf); first | exact trivial | with_reducible refine zX ?_ | refine ⟨rfl, ?_⟩ | refine ⟨_, rfl, ?_⟩ | with_reducible refine zP ?_ | with_reducible refine zL ?_ | refine ⟨fun _ => ?_, fun _ => ?_⟩ | refine zn ?_ | refine zb rfl ?_ | refine zX ?_ | refine zo rfl ?_ | refine zs ?_ | intro _)); all_goals (try (conv => whnf))
    refine loop_inv (fun n s => ∃ (k f t : Int), n = (e0 + 1 - t).toNat ∧ 0 ≤ k ∧ t = l[i].d + k * l[i].t ∧ Look l e0 f (fun x j => x ∈ l.take i ∨ (x = l[i] ∧ j < k)) ∧ f ≤ e0 + 1 ∧
     s = ⟨mkT 45 [(0, .p (sL nl l)), (4, .p (.int .i64 e0)), (6, .p (.int .i64 f)), (8, .addr 0 3 0 0), (9, .p (.int .i64 t)), (19, .p (sL nl l)), (20, .p (.int .i64 (l.map eL).length)), (21, .p (.int .i64 i))],
      [some ⟨true, 3, [[.p (.int .i64 l[i].c), .p (.int .i64 l[i].d), .p (.int .i64 l[i].t)]], false⟩]⟩) (e0 + 1 - l[i].d).toNat ?_ ?_
    ·conv => whnf
     exact ⟨0, f, l[i].d, rfl, Int.le_refl _, by omega, ⟨hI.may, hI.fst, fun x hx k hk hs => hI.ok x hx k hk (hs.resolve_right fun h => by omega)⟩, hf, rfl⟩
    ·rintro m st2 b2 N2 ⟨k, f2, t, hm, hk, htk, hI2, hf2, e2⟩ hN2
     cases e2
     by_cases hlt2 : t < f2
     ·have hb2 : decide (t < f2) = true := decide_eq_true hlt2
      have hkt : 0 ≤ k * l[i].t := Int.mul_nonneg hk (by omega)
      have hc := hbnd t (by omega) (by omega)
      have hkn : (k + 1) * l[i].t = k * l[i].t + l[i].t := by rw [Int.add_mul, Int.one_mul]
      (repeat' ((conv => whnf); first | exact trivial | with_reducible refine zX ?_ | refine ⟨rfl, ?_⟩ | refine ⟨_, rfl, ?_⟩ | with_reducible refine zP ?_ | with_reducible refine zL ?_ | refine ⟨fun _ => ?_, fun _ => ?_⟩ | refine zn ?_ | refine zb rfl ?_ | refine zX ?_ | refine zo rfl ?_ | refine zs ?_ | intro _)); all_goals (try (conv => whnf))
      ·rename_i ov
       have ov := of_decide_eq_true ov
       rw [wrapE (by omega) (by omega)]
       refine hN2 _ _ (by omega) ⟨k + 1, t, t + l[i].t, rfl, by omega, by omega, ⟨hI2.may, .inr ⟨by omega, by omega, ov⟩, fun x hx j hj hs hlt3 => ?_⟩, by omega, rfl⟩
       refine hI2.ok x hx j hj ?_ (by omega)
       rcases hs with hs | ⟨rfl, hs⟩
       ·exact .inl hs
       ·refine .inr ⟨rfl, ?_⟩
        by_cases e : j = k
        ·subst e; omega
        ·omega
      ·rename_i ov
       have ov := of_decide_eq_false ov
       rw [wrapE (by omega) (by omega)]
       refine hN2 _ _ (by omega) ⟨k + 1, f2, t + l[i].t, rfl, by omega, by omega, ⟨hI2.may, hI2.fst, fun x hx j hj hs hlt3 => ?_⟩, hf2, rfl⟩
       rcases hs with hs | ⟨rfl, hs⟩
       ·exact hI2.ok x hx j hj (.inl hs) hlt3
       ·by_cases e : j = k
        ·subst e; rw [← htk]; omega
        ·exact hI2.ok _ hx j hj (.inr ⟨rfl, by omega⟩) hlt3
     ·have hb2 : decide (t < f2) = false := decide_eq_false hlt2
      (repeat' ((conv => whnf); first | exact trivial | with_reducible refine zX ?_ | refine ⟨rfl, ?_⟩ | refine ⟨_, rfl, ?_⟩ | with_reducible refine zP ?_ | with_reducible refine zL ?_ | refine ⟨fun _ => ?_, fun _ => ?_⟩ | refine zn ?_ | refine zb rfl ?_ | refine zX ?_ | refine zo rfl ?_ | refine zs ?_ | intro _)); all_goals (try (conv => whnf))
      rw [next1 (by simpa using hlt) hlen]
      refine hN (n - 1) _ (by omega) ⟨i + 1, f2, by omega, ⟨hI2.may, hI2.fst, fun x hx j hj hs hlt3 => ?_⟩, hf2, rfl⟩
      refine hI2.ok x hx j hj ?_ hlt3
      rw [List.take_add_one, List.getElem?_eq_getElem hlt] at hs
      rcases List.mem_append.1 hs with hs | hs
      ·exact .inl hs
      ·simp only [Option.toList_some, List.mem_singleton] at hs
       subst hs
       refine .inr ⟨rfl, Int.not_le.1 fun hle => ?_⟩
       have := Int.mul_le_mul_of_nonneg_right hle (show 0 ≤ l[i].t by omega)
       omega
   ·have hb := lt_f (n := (l.map eL).length) (by simpa using hlt)
    have hend := hI.end fun x hx k _ _ => by rw [List.take_of_length_le (by omega)]; exact hx
    by_cases hfe : f > e0
    ·have hb3 : decide (f > e0) = true := decide_eq_true hfe
     rw [if_pos hfe] at hend
     (repeat' ((conv => whnf); first | exact trivial | with_reducible refine zX ?_ | refine ⟨rfl, ?_⟩ | refine ⟨_, rfl, ?_⟩ | with_reducible refine zP ?_ | with_reducible refine zL ?_ | refine ⟨fun _ => ?_, fun _ => ?_⟩ | refine zn ?_ | refine zb rfl ?_ | refine zX ?_ | refine zo rfl ?_ | refine zs ?_ | intro _)); all_goals (try (conv => whnf))
     show resOf _ = DV.tup [TV.p (.int .i64 (firstV l e0)), TV.p (.bool (true && decide (firstV l e0 ≠ 0)))]
     rw [hend]
     rfl
    ·have hb3 : decide (f > e0) = false := decide_eq_false hfe
     rw [if_neg hfe] at hend
     have hf1 : f ≠ 0 := by rcases hI.fst with h | h <;> omega
     (repeat' ((conv => whnf); first | exact trivial | with_reducible refine zX ?_ | refine ⟨rfl, ?_⟩ | refine ⟨_, rfl, ?_⟩ | with_reducible refine zP ?_ | with_reducible refine zL ?_ | refine ⟨fun _ => ?_, fun _ => ?_⟩ | refine zn ?_ | refine zb rfl ?_ | refine zX ?_ | refine zo rfl ?_ | refine zs ?_ | intro _)); all_goals (try (conv => whnf))
     show resOf _ = DV.tup [TV.p (.int .i64 (firstV l e0)), TV.p (.bool (true && decide (firstV l e0 ≠ 0)))]
     rw [hend, decide_eq_true hf1]
     rfl
theorem fits47 (nl : Bool) (l : List Ld) : PureCall Tryz.prog 32 [sL nl l] (.p (.bool (fitsB l))) := by
 have h1 := time66 nl l
 have h2 := first67 nl l
 rw [fitsB_eq]
 generalize timeV l = T at *
 obtain ⟨e0, ok⟩ := T
 refine Fn.run k32 rfl ?_
 generalize Tryz.prog = P at *
 (repeat' ((conv => whnf); first | exact trivial | with_reducible refine zX ?_ | refine ⟨rfl, ?_⟩ | refine ⟨_, rfl, ?_⟩ | with_reducible refine zP ?_ | with_reducible refine zL ?_ | refine ⟨fun _ => ?_, fun _ => ?_⟩ | refine zn ?_ | refine zb rfl ?_ | refine zX ?_ | refine zo rfl ?_ | refine zs ?_ | intro _)); all_goals (try (conv => whnf))
 ·rename_i e
  exact bool_end (by simp only at e; subst e; simp)
 ·rename_i e
  exact bool_end (by simp only [Bool.not_true] at e; subst e; simp)
end Go.Proofs.YtoepoghmeajocaaGreatDoor.Vc
namespace Go.Proofs.YtoepoghmeajocaaGreatDoor.Vc
open Go.RowKit Ma
theorem len_le {n : Nat} (h : n ≤ 24) : n ≤ maxLen := Nat.le_trans h (by decide)
theorem loads98 (nl : Bool) (l : List Ld) : PureCall Tryz.prog 148 [sL nl l] (.p (.bool (mayL l))) := by
 have hld := load120
 refine Fn.run k148 rfl ?_
 generalize Tryz.prog = P at *
 (repeat' ((conv => whnf); first | exact trivial | with_reducible refine zX ?_ | refine ⟨rfl, ?_⟩ | refine ⟨_, rfl, ?_⟩ | with_reducible refine zP ?_ | with_reducible refine zL ?_ | refine ⟨fun _ => ?_, fun _ => ?_⟩ | refine zn ?_ | refine zb rfl ?_ | refine zX ?_ | refine zo rfl ?_ | refine zs ?_ | intro _)); all_goals (try (conv => whnf))
 refine loop_inv (fun n s => ∃ i : Nat, n + i = l.length ∧ (l.drop i).all Ld.ok = l.all Ld.ok ∧ s = ⟨mkT 19 [(0, .p (sL nl l)), (3, .p (.int .i64 i))], []⟩) l.length ?_ ?_
 ·conv => whnf
  exact ⟨0, rfl, rfl, rfl⟩
 ·rintro n st b N ⟨i, hi, hI, e⟩ hN
  cases e
  by_cases hlt : i < l.length
  ·have hrow : (l.map eL)[i]? = some (eL l[i]) := by simp [hlt]
   have hb := lt_t (n := (l.map eL).length) (by simpa using hlt)
   have hc := hld l[i]
   rw [List.drop_eq_getElem_cons hlt] at hI
   simp only [List.all_cons] at hI
   (repeat' ((conv => whnf); first | exact trivial | with_reducible refine zX ?_ | refine ⟨rfl, ?_⟩ | refine ⟨_, rfl, ?_⟩ | with_reducible refine zP ?_ | with_reducible refine zL ?_ | refine ⟨fun _ => ?_, fun _ => ?_⟩ | refine zn ?_ | refine zb rfl ?_ | refine zX ?_ | refine zo rfl ?_ | refine zs ?_ | intro _)); all_goals (try (conv => whnf))
   ·rename_i e
    refine bool_end ?_
    unfold mayL
    simp only [Bool.not_eq_true'] at e
    rw [← hI, e]; simp
   ·rename_i hlen e
    simp only [Bool.not_eq_false'] at e
    rw [next1 (by simpa using hlt) hlen]
    rw [e, Bool.true_and] at hI
    exact hN (n - 1) _ (by omega) ⟨i + 1, by omega, hI, rfl⟩
  ·have hb := lt_f (n := (l.map eL).length) (by simpa using hlt)
   (repeat' ((conv => whnf); first | exact trivial | with_reducible refine zX ?_ | refine ⟨rfl, ?_⟩ | refine ⟨_, rfl, ?_⟩ | with_reducible refine zP ?_ | with_reducible refine zL ?_ | refine ⟨fun _ => ?_, fun _ => ?_⟩ | refine zn ?_ | refine zb rfl ?_ | refine zX ?_ | refine zo rfl ?_ | refine zs ?_ | intro _)); all_goals (try (conv => whnf))
   refine bool_end ?_
   unfold mayL
   rw [List.drop_of_length_le (by omega)] at hI
   simp only [List.all_nil] at hI
   rw [← hI, Bool.and_true, Bool.eq_iff_iff, decide_eq_true_eq, decide_eq_true_eq, List.length_map]
   omega
theorem timeV_false {l : List Ld} (h : (timeV l).2 = false) : (timeV l).1 = 0 := by
 unfold timeV at *
 split at h <;> rename_i h1
 ·rw [if_pos h1]
 ·rw [if_neg h1]
  split at h <;> rename_i h2
  ·cases h
  ·rw [if_neg h2]
   split at h <;> rename_i h3
   ·cases h
   ·rw [dif_neg h3]
theorem time80 (nl : Bool) (l : List Ld) : PureCall Tryz.prog 128 [sL nl l] (.tup [.p (.int .i64 (timeV l).1), .p (.bool (timeV l).2)]) := by
 have hm := loads98 nl l
 cases hl : mayL l with
 | false =>
  rw [hl] at hm
  rw [timeV_bad hl]
  refine Fn.run k128 rfl ?_
  generalize Tryz.prog = P at *
  (repeat' ((conv => whnf); first | exact trivial | with_reducible refine zX ?_ | refine ⟨rfl, ?_⟩ | refine ⟨_, rfl, ?_⟩ | with_reducible refine zP ?_ | with_reducible refine zL ?_ | refine ⟨fun _ => ?_, fun _ => ?_⟩ | refine zn ?_ | refine zb rfl ?_ | refine zX ?_ | refine zo rfl ?_ | refine zs ?_ | intro _)); all_goals (try (conv => whnf))
  rfl
 | true =>
  rw [hl] at hm
  by_cases hn : l = []
  ·subst hn
   rw [timeV_nil]
   have hz : ((([] : List Ld).map eL).length : Int) == 0 := rfl
   refine Fn.run k128 rfl ?_
   generalize Tryz.prog = P at *
   (repeat' ((conv => whnf); first | exact trivial | with_reducible refine zX ?_ | refine ⟨rfl, ?_⟩ | refine ⟨_, rfl, ?_⟩ | with_reducible refine zP ?_ | with_reducible refine zL ?_ | refine ⟨fun _ => ?_, fun _ => ?_⟩ | refine zn ?_ | refine zb rfl ?_ | refine zX ?_ | refine zo rfl ?_ | refine zs ?_ | intro _)); all_goals (try (conv => whnf))
   rfl
  ·have hl' := mayL_iff.1 hl
   have hz : (((l.map eL).length : Int) == 0) = false := by
    cases l with
    | nil => exact absurd rfl hn
    | cons x xs => simp; omega
   refine Fn.run k128 rfl ?_
   generalize Tryz.prog = P at *
   (repeat' ((conv => whnf); first | exact trivial | with_reducible refine zX ?_ | refine ⟨rfl, ?_⟩ | refine ⟨_, rfl, ?_⟩ | with_reducible refine zP ?_ | with_reducible refine zL ?_ | refine ⟨fun _ => ?_, fun _ => ?_⟩ | refine zn ?_ | refine zb rfl ?_ | refine zX ?_ | refine zo rfl ?_ | refine zs ?_ | intro _)); all_goals (try (conv => whnf))
   refine loop_inv (fun n s => ∃ t : Int, n = (20001 - t).toNat ∧ Seek l t ∧ s = ⟨mkT 47 [(0, .p (sL nl l)), (4, .p (.int .i64 t))], []⟩) 20000 ?_ ?_
   ·conv => whnf
    exact ⟨1, rfl, Seek.start hl hn, rfl⟩
   ·rintro n st b N ⟨t, hnn, hs, e⟩ hN
    cases e
    by_cases ht : t ≤ 20000
    ·have hb : decide (t ≤ 20000) = true := decide_eq_true ht
     have ht1 := hs.lo
     (repeat' ((conv => whnf); first | exact trivial | with_reducible refine zX ?_ | refine ⟨rfl, ?_⟩ | refine ⟨_, rfl, ?_⟩ | with_reducible refine zP ?_ | with_reducible refine zL ?_ | refine ⟨fun _ => ?_, fun _ => ?_⟩ | refine zn ?_ | refine zb rfl ?_ | refine zX ?_ | refine zo rfl ?_ | refine zs ?_ | intro _)); all_goals (try (conv => whnf))
     refine loop_inv (fun n s => ∃ (i : Nat) (acc : Int), n + i = l.length ∧ acc + sumL (ask1 t) (l.drop i) = asked l t ∧ 0 ≤ acc ∧ acc ≤ i * 400000000 ∧
      s = ⟨mkT 47 [(0, .p (sL nl l)), (4, .p (.int .i64 t)), (5, .p (.int .i64 acc)), (6, .p (.int .i64 i))], []⟩) l.length ?_ ?_
     ·conv => whnf
      exact ⟨0, 0, rfl, by simp [asked], Int.le_refl _, by omega, rfl⟩
     ·rintro m st2 b2 N2 ⟨i, acc, hi, hI, ha1, ha2, e2⟩ hN2
      cases e2
      by_cases hlt : i < l.length
      ·have hrow : (l.map eL)[i]? = some (eL l[i]) := by simp [hlt]
       have hb2 := lt_t (n := (l.map eL).length) (by simpa using hlt)
       have hok := hl'.2 l[i] (List.getElem_mem _)
       have hokp := Ld.ok_iff.1 hok
       have htn : l[i].t ≠ 0 := by omega
       have hbd := ask1_bound hok ht1 ht
       rw [List.drop_eq_getElem_cons hlt] at hI
       simp only [sumL] at hI
       (repeat' ((conv => whnf); first | exact trivial | with_reducible refine zX ?_ | refine ⟨rfl, ?_⟩ | refine ⟨_, rfl, ?_⟩ | with_reducible refine zP ?_ | with_reducible refine zL ?_ | refine ⟨fun _ => ?_, fun _ => ?_⟩ | refine zn ?_ | refine zb rfl ?_ | refine zX ?_ | refine zo rfl ?_ | refine zs ?_ | intro _)); all_goals (try (conv => whnf))
       rw [next1 (n := l.length) hlt (len_le hl'.1)]
       have hq : 0 ≤ (t - 1) / l[i].t ∧ (t - 1) / l[i].t ≤ t - 1 := ⟨Int.ediv_nonneg (by omega) (by omega), Int.ediv_le_self _ (by omega)⟩
       have e0 : IntKind.wrap .i64 (t - 1) = t - 1 := wrapE (by omega) (by omega)
       rw [e0, Int.tdiv_eq_ediv_of_nonneg (by omega), wrapE (n := (t - 1) / l[i].t) (by omega) (by omega), wrapE (n := (t - 1) / l[i].t + 1) (by omega) (by omega)]
       have e1 : IntKind.wrap .i64 (l[i].c * ((t - 1) / l[i].t + 1)) = ask1 t l[i] := wrapE (by unfold ask1 at hbd; omega) (by unfold ask1 at hbd; omega)
       rw [e1, wrapE (by omega) (by omega)]
       exact hN2 (m - 1) _ (by omega) ⟨i + 1, acc + ask1 t l[i], by omega, by omega, by omega, by omega, rfl⟩
      ·have hb2 := lt_f (n := (l.map eL).length) (by simpa using hlt)
       rw [List.drop_of_length_le (by omega)] at hI
       simp only [sumL] at hI
       have hI : acc = asked l t := by omega
       subst hI
       (repeat' ((conv => whnf); first | exact trivial | with_reducible refine zX ?_ | refine ⟨rfl, ?_⟩ | refine ⟨_, rfl, ?_⟩ | with_reducible refine zP ?_ | with_reducible refine zL ?_ | refine ⟨fun _ => ?_, fun _ => ?_⟩ | refine zn ?_ | refine zb rfl ?_ | refine zX ?_ | refine zo rfl ?_ | refine zs ?_ | intro _)); all_goals (try (conv => whnf))
       ·rename_i e
        rw [hs.found ht (by simpa using e)]; rfl
       ·rename_i e
        have hx := hs.next ht (by simpa using e)
        exact hN _ _ (by omega) ⟨asked l t, rfl, hx.1, rfl⟩
    ·have hb : decide (t ≤ 20000) = false := decide_eq_false ht
     (repeat' ((conv => whnf); first | exact trivial | with_reducible refine zX ?_ | refine ⟨rfl, ?_⟩ | refine ⟨_, rfl, ?_⟩ | with_reducible refine zP ?_ | with_reducible refine zL ?_ | refine ⟨fun _ => ?_, fun _ => ?_⟩ | refine zn ?_ | refine zb rfl ?_ | refine zX ?_ | refine zo rfl ?_ | refine zs ?_ | intro _)); all_goals (try (conv => whnf))
     rw [hs.never ht]; rfl
def inc (t : Int) (x : Ld) : Int := if t ≥ x.d ∧ (t - x.d) % x.t = 0 then x.c else 0
theorem dueL_step {l : List Ld} (hl : ∀ x, x ∈ l → x.ok = true) (t : Int) : dueL l t = dueL l (t - 1) + sumL (inc t) l := by
 induction l with
 | nil => simp [dueL, sumL]
 | cons x xs ih =>
  have h1 := due1_step (hl x (List.mem_cons_self ..)) t
  have h2 := ih fun y hy => hl y (List.mem_cons_of_mem _ hy)
  simp only [dueL, sumL] at *
  unfold inc at *
  omega
theorem over61 (nl : Bool) (l : List Ld) : PureCall Tryz.prog 94 [sL nl l] (.tup [.p (.int .i64 (firstV l (timeV l).1)), .p (.bool (timeV l).2)]) := by
 have htm := time80 nl l
 have hrange := timeV_range l
 have hz := timeV_false (l := l)
 generalize hT : timeV l = T at *
 obtain ⟨e0, ok⟩ := T
 cases ok with
 | false =>
  have hz := hz rfl
  simp only at hz
  subst hz
  have hf0 : firstV l 0 = 0 := firstV_none fun t h1 h2 => by omega
  have hb1 : decide ((1 : Int) ≤ 0) = false := by decide
  refine Fn.run k94 rfl ?_
  generalize Tryz.prog = P at *
  (repeat' ((conv => whnf); first | exact trivial | with_reducible refine zX ?_ | refine ⟨rfl, ?_⟩ | refine ⟨_, rfl, ?_⟩ | with_reducible refine zP ?_ | with_reducible refine zL ?_ | refine ⟨fun _ => ?_, fun _ => ?_⟩ | refine zn ?_ | refine zb rfl ?_ | refine zX ?_ | refine zo rfl ?_ | refine zs ?_ | intro _)); all_goals (try (conv => whnf))
  refine loop_inv (fun n s => s = ⟨mkT 61 [(0, .p (sL nl l)), (4, .p (.int .i64 0)), (5, .p (.bool false)), (6, .p (.int .i64 0)), (7, .p (.int .i64 1))], []⟩) 0 ?_ ?_
  ·conv => whnf
   rfl
  ·rintro n st b N e hN
   cases e
   (repeat' ((conv => whnf); first | exact trivial | with_reducible refine zX ?_ | refine ⟨rfl, ?_⟩ | refine ⟨_, rfl, ?_⟩ | with_reducible refine zP ?_ | with_reducible refine zL ?_ | refine ⟨fun _ => ?_, fun _ => ?_⟩ | refine zn ?_ | refine zb rfl ?_ | refine zX ?_ | refine zo rfl ?_ | refine zs ?_ | intro _)); all_goals (try (conv => whnf))
   show resOf _ = DV.tup [TV.p (.int .i64 (firstV l 0)), TV.p (.bool false)]
   rw [hf0]; rfl
 | true =>
  have hl := (timeV_ok (by rw [hT])).1
  have hl' := mayL_iff.1 hl
  simp only at hrange
  refine Fn.run k94 rfl ?_
  generalize Tryz.prog = P at *
  (repeat' ((conv => whnf); first | exact trivial | with_reducible refine zX ?_ | refine ⟨rfl, ?_⟩ | refine ⟨_, rfl, ?_⟩ | with_reducible refine zP ?_ | with_reducible refine zL ?_ | refine ⟨fun _ => ?_, fun _ => ?_⟩ | refine zn ?_ | refine zb rfl ?_ | refine zX ?_ | refine zo rfl ?_ | refine zs ?_ | intro _)); all_goals (try (conv => whnf))
  refine loop_inv (fun n s => ∃ t : Int, n = (e0 + 1 - t).toNat ∧ 1 ≤ t ∧ t ≤ e0 + 1 ∧ (∀ s, 1 ≤ s → s < t → dueL l s ≤ s) ∧
   s = ⟨mkT 61 [(0, .p (sL nl l)), (4, .p (.int .i64 e0)), (5, .p (.bool true)), (6, .p (.int .i64 (dueL l (t - 1)))), (7, .p (.int .i64 t))], []⟩) e0.toNat ?_ ?_
  ·conv => whnf
   refine ⟨1, by omega, Int.le_refl _, by omega, fun s h1 h2 => by omega, ?_⟩
   have : dueL l (1 - 1) = 0 := due_zero hl
   rw [this]; rfl
  ·rintro n st b N ⟨t, hn, ht1, ht2, hdone, e⟩ hN
   cases e
   by_cases hte : t ≤ e0
   ·have hb : decide (t ≤ e0) = true := decide_eq_true hte
    have hstep := dueL_step hl'.2 t
    have hb1 := due_bound hl (t := t - 1) (by omega)
    have hb2 := due_bound hl (t := t) (by omega)
    (repeat' ((conv => whnf); first | exact trivial | with_reducible refine zX ?_ | refine ⟨rfl, ?_⟩ | refine ⟨_, rfl, ?_⟩ | with_reducible refine zP ?_ | with_reducible refine zL ?_ | refine ⟨fun _ => ?_, fun _ => ?_⟩ | refine zn ?_ | refine zb rfl ?_ | refine zX ?_ | refine zo rfl ?_ | refine zs ?_ | intro _)); all_goals (try (conv => whnf))
    refine loop_inv (fun n s => ∃ (i : Nat) (acc : Int), n + i = l.length ∧ acc + sumL (inc t) (l.drop i) = dueL l t ∧ 0 ≤ acc ∧ acc ≤ 9600000000 + i * 20000 ∧
     s = ⟨mkT 61 [(0, .p (sL nl l)), (4, .p (.int .i64 e0)), (5, .p (.bool true)), (6, .p (.int .i64 acc)), (7, .p (.int .i64 t)), (8, .p (.int .i64 i))], []⟩) l.length ?_ ?_
    ·conv => whnf
     exact ⟨0, dueL l (t - 1), rfl, by simpa using hstep.symm, hb1.1, by omega, rfl⟩
    ·rintro m st2 b2 N2 ⟨i, acc, hi, hI, ha1, ha2, e2⟩ hN2
     cases e2
     by_cases hlt : i < l.length
     ·have hrow : (l.map eL)[i]? = some (eL l[i]) := by simp [hlt]
      have hb3 := lt_t (n := (l.map eL).length) (by simpa using hlt)
      have hokp := Ld.ok_iff.1 (hl'.2 l[i] (List.getElem_mem _))
      have htn : l[i].t ≠ 0 := by omega
      have hnx : IntKind.wrap .i64 ((i : Int) + 1) = ((i + 1 : Nat) : Int) := next1 (n := l.length) hlt (len_le hl'.1)
      rw [List.drop_eq_getElem_cons hlt] at hI
      simp only [sumL] at hI
      have htd : t ≥ l[i].d → IntKind.wrap .i64 (t - l[i].d) = t - l[i].d := fun h => wrapE (by omega) (by omega)
      (repeat' ((conv => whnf); first | exact trivial | with_reducible refine zX ?_ | refine ⟨rfl, ?_⟩ | refine ⟨_, rfl, ?_⟩ | with_reducible refine zP ?_ | with_reducible refine zL ?_ | refine ⟨fun _ => ?_, fun _ => ?_⟩ | refine zn ?_ | refine zb rfl ?_ | refine zX ?_ | refine zo rfl ?_ | refine zs ?_ | intro _)); all_goals (try (conv => whnf))
      ·rename_i e1 e2
       have e1 := of_decide_eq_true e1
       rw [htd e1, Int.tmod_eq_emod_of_nonneg (by omega)] at e2
       have hin : inc t l[i] = l[i].c := by unfold inc; rw [if_pos ⟨e1, by simpa using e2⟩]
       rw [hnx, wrapE (by omega) (by omega)]
       exact hN2 (m - 1) _ (by omega) ⟨i + 1, acc + l[i].c, by omega, by omega, by omega, by omega, rfl⟩
      ·rename_i e1 e2
       have e1 := of_decide_eq_true e1
       rw [htd e1, Int.tmod_eq_emod_of_nonneg (by omega)] at e2
       have hin : inc t l[i] = 0 := by unfold inc; rw [if_neg fun h => by rw [h.2] at e2; simp at e2]
       rw [hnx]
       exact hN2 (m - 1) _ (by omega) ⟨i + 1, acc, by omega, by omega, by omega, by omega, rfl⟩
      ·rename_i e1
       have e1 : ¬ t ≥ l[i].d := by simpa using e1
       have hin : inc t l[i] = 0 := by unfold inc; rw [if_neg fun h => e1 h.1]
       rw [hnx]
       exact hN2 (m - 1) _ (by omega) ⟨i + 1, acc, by omega, by omega, by omega, by omega, rfl⟩
     ·have hb3 := lt_f (n := (l.map eL).length) (by simpa using hlt)
      rw [List.drop_of_length_le (by omega)] at hI
      simp only [sumL] at hI
      have hI : acc = dueL l t := by omega
      subst hI
      by_cases hov : dueL l t > t
      ·have hb4 : decide (dueL l t > t) = true := decide_eq_true hov
       (repeat' ((conv => whnf); first | exact trivial | with_reducible refine zX ?_ | refine ⟨rfl, ?_⟩ | refine ⟨_, rfl, ?_⟩ | with_reducible refine zP ?_ | with_reducible refine zL ?_ | refine ⟨fun _ => ?_, fun _ => ?_⟩ | refine zn ?_ | refine zb rfl ?_ | refine zX ?_ | refine zo rfl ?_ | refine zs ?_ | intro _)); all_goals (try (conv => whnf))
       show resOf _ = DV.tup [TV.p (.int .i64 (firstV l e0)), TV.p (.bool true)]
       rw [firstV_at ⟨ht1, hte, hov, hdone⟩]
       rfl
      ·have hb4 : decide (dueL l t > t) = false := decide_eq_false hov
       (repeat' ((conv => whnf); first | exact trivial | with_reducible refine zX ?_ | refine ⟨rfl, ?_⟩ | refine ⟨_, rfl, ?_⟩ | with_reducible refine zP ?_ | with_reducible refine zL ?_ | refine ⟨fun _ => ?_, fun _ => ?_⟩ | refine zn ?_ | refine zb rfl ?_ | refine zX ?_ | refine zo rfl ?_ | refine zs ?_ | intro _)); all_goals (try (conv => whnf))
       rw [wrapE (by omega) (by omega)]
       refine hN _ _ (by omega) ⟨t + 1, rfl, by omega, by omega, fun s h1 h2 => ?_, ?_⟩
       ·by_cases hs : s = t
        ·subst hs; omega
        ·exact hdone s h1 (by omega)
       ·have : t + 1 - 1 = t := by omega
        rw [this]; rfl
   ·have hb : decide (t ≤ e0) = false := decide_eq_false hte
    (repeat' ((conv => whnf); first | exact trivial | with_reducible refine zX ?_ | refine ⟨rfl, ?_⟩ | refine ⟨_, rfl, ?_⟩ | with_reducible refine zP ?_ | with_reducible refine zL ?_ | refine ⟨fun _ => ?_, fun _ => ?_⟩ | refine zn ?_ | refine zb rfl ?_ | refine zX ?_ | refine zo rfl ?_ | refine zs ?_ | intro _)); all_goals (try (conv => whnf))
    show resOf _ = DV.tup [TV.p (.int .i64 (firstV l e0)), TV.p (.bool true)]
    rw [firstV_none fun s h1 h2 => hdone s h1 (by omega)]
    rfl
theorem fits34 (nl : Bool) (l : List Ld) : PureCall Tryz.prog 49 [sL nl l] (.p (.bool (fitsB l))) := by
 have h1 := over61 nl l
 rw [fitsB_eq]
 generalize timeV l = T at *
 obtain ⟨e0, ok⟩ := T
 refine Fn.run k49 rfl ?_
 generalize Tryz.prog = P at *
 (repeat' ((conv => whnf); first | exact trivial | with_reducible refine zX ?_ | refine ⟨rfl, ?_⟩ | refine ⟨_, rfl, ?_⟩ | with_reducible refine zP ?_ | with_reducible refine zL ?_ | refine ⟨fun _ => ?_, fun _ => ?_⟩ | refine zn ?_ | refine zb rfl ?_ | refine zX ?_ | refine zo rfl ?_ | refine zs ?_ | intro _)); all_goals (try (conv => whnf))
 ·rename_i e
  exact bool_end (by simp only at e; subst e; rw [Bool.true_and, Bool.eq_iff_iff]; simp)
 ·rename_i e
  exact bool_end (by simp only [Bool.not_true] at e; subst e; simp)
end Go.Proofs.YtoepoghmeajocaaGreatDoor.Vc
namespace Go.Proofs.YtoepoghmeajocaaGreatDoor.Vc
open Go.RowKit
def F15 : Fn := ⟨107, 6, [.tmp 0],
 (.seq
 (.reg [mc 0 (.bool false)])
 (.seq
 (.reg [⟨some 12, none, .build [.int .i64 0, .int .i64 0, .int .i64 0, .int .i64 0, .sl 1 true []] [(0, 1), (2, 1), (3, 1)], [.c (.p (.int .i64 2)), .c (.p (.int .i64 1)), .c (.p (.int .i64 1))]⟩,
 ⟨some 1, none, .alloc 0 5 [.p (.int .i64 0), .p (.int .i64 0), .p (.int .i64 0), .p (.int .i64 0), .ow 1 true []], []⟩,
 ⟨none, none, .store 5, [.t 1, .t 12]⟩])
 (.seq
 (.reg [⟨some 13, none, .build [.int .i64 0, .int .i64 0, .int .i64 0] [(0, 1), (1, 1), (2, 1)], [.c (.p (.int .i64 6)), .c (.p (.int .i64 10)), .c (.p (.int .i64 10))]⟩,
 ii 14 (.bsl 3 1) [.t 13],
 ⟨some 15, none, .build [.int .i64 0, .int .i64 0, .int .i64 0] [(0, 1), (1, 1), (2, 1)], [.c (.p (.int .i64 6)), .c (.p (.int .i64 10)), .c (.p (.int .i64 10))]⟩,
 ii 16 (.bsl 3 1) [.t 15],
 ii 17 (.bsl 1 2) [.t 14, .t 16],
 mt 2 17])
 (.seq
 (.reg [⟨some 18, none, .build [.int .i64 0, .int .i64 0, .int .i64 0, .sl 3 true []] [(0, 1), (1, 1), (2, 1)], [.c (.p (.int .i64 5)), .c (.p (.int .i64 10)), .c (.p (.int .i64 10))]⟩,
 ⟨some 3, none, .alloc 1 4 [.p (.int .i64 0), .p (.int .i64 0), .p (.int .i64 0), .ow 3 true []], []⟩,
 ⟨none, none, .store 4, [.t 3, .t 18]⟩])
 (.seq
 (.reg [mv 20 2,
 ii 21 (.load 4 true false) [.t 3],
 ii 22 (.call 21) [.t 20, .t 21, .c (.p (.int .i64 0))],
 mv 19 22,
 ii 23 (.ext 0) [.t 19],
 ii 24 (.ext 1) [.t 19],
 ⟨some 4, none, .alloc 2 2 [.p (.int .i64 0), .ow 4 true []], []⟩,
 ⟨none, none, .store 2, [.t 4, .t 23]⟩,
 mt 5 24])
 (.seq
 (.reg [ii 26 (.bsl 1 2) [.c (.ow 3 true []), .c (.ow 3 true [])],
 ii 27 (.load 4 true false) [.t 3],
 ii 28 (.call 21) [.t 26, .t 27, .c (.p (.int .i64 1))],
 mv 25 28,
 ii 29 (.ext 0) [.t 25],
 ii 30 (.ext 1) [.t 25],
 ⟨some 6, none, .alloc 3 2 [.p (.int .i64 0), .ow 4 true []], []⟩,
 ⟨none, none, .store 2, [.t 6, .t 29]⟩,
 mt 7 30])
 (.seq
 (.reg [ii 32 (.load 5 true false) [.t 1],
 mv 33 2,
 ii 34 (.load 4 true false) [.t 3],
 ii 35 (.call 19) [.t 32, .t 33, .t 34],
 mv 31 35,
 ii 36 (.ext 0) [.t 31],
 ii 37 (.ext 1) [.t 31],
 ⟨some 8, none, .alloc 4 2 [.p (.int .i64 0), .ow 4 true []], []⟩,
 ⟨none, none, .store 2, [.t 8, .t 36]⟩,
 mt 9 37])
 (.seq
 (.reg [ii 39 (.load 5 true false) [.t 1],
 mv 40 2,
 ⟨some 41, none, .build [.int .i64 0, .int .i64 0, .int .i64 0, .sl 3 true []] [(0, 1), (1, 1), (2, 1)], [.c (.p (.int .i64 5)), .c (.p (.int .i64 20)), .c (.p (.int .i64 20))]⟩,
 ii 42 (.call 20) [.t 39, .t 40, .t 41],
 mv 38 42,
 ii 43 (.ext 0) [.t 38],
 ii 44 (.ext 1) [.t 38],
 ⟨some 10, none, .alloc 5 2 [.p (.int .i64 0), .ow 4 true []], []⟩,
 ⟨none, none, .store 2, [.t 10, .t 43]⟩,
 mt 11 44])
 (.seq
 (.reg [ii 45 (.call 42) [],
 mv 46 45,
 gt 47 46 (.mov false) [.t 5],
 gt 48 46 (.un .not) [.t 47],
 ii 49 .pick [.t 46, .t 48, .c (.p (.bool false))],
 mv 50 49,
 gt 51 50 (.mov false) [.t 7],
 ii 52 .pick [.t 50, .t 51, .c (.p (.bool false))],
 mv 53 52,
 gt 54 53 (.fad 0) [.t 6],
 gt 55 53 (.load 1 false false) [.t 54],
 gt 56 53 (.bin .eql) [.t 55, .c (.p (.int .i64 1))],
 ii 57 .pick [.t 53, .t 56, .c (.p (.bool false))],
 mv 58 57,
 gt 59 58 (.fad 1) [.t 6],
 gt 60 58 (.load 1 false false) [.t 59],
 gt 61 58 .len [.t 60],
 gt 62 58 (.bin .eql) [.t 61, .c (.p (.int .i64 1))],
 ii 63 .pick [.t 58, .t 62, .c (.p (.bool false))],
 mv 64 63,
 gt 65 64 (.mov false) [.t 9],
 gt 66 64 (.load 5 true false) [.t 1],
 gt 67 64 (.load 4 true false) [.t 3],
 gt 68 64 (.load 2 true false) [.t 8],
 gt 69 64 (.call 22) [.t 66, .t 67, .t 68],
 gt 70 64 (.eqb false) [.t 65, .t 69],
 ii 71 .pick [.t 64, .t 70, .c (.p (.bool false))],
 mv 72 71,
 gt 73 72 (.mov false) [.t 11],
 gt 74 72 (.load 5 true false) [.t 1],
 ⟨some 75, (some (72, true)), .build [.int .i64 0, .int .i64 0, .int .i64 0, .sl 3 true []] [(0, 1), (1, 1), (2, 1)], [.c (.p (.int .i64 5)), .c (.p (.int .i64 20)), .c (.p (.int .i64 20))]⟩,
 gt 76 72 (.load 2 true false) [.t 10],
 gt 77 72 (.call 22) [.t 74, .t 75, .t 76],
 gt 78 72 (.eqb false) [.t 73, .t 77],
 ii 79 .pick [.t 72, .t 78, .c (.p (.bool false))],
 mv 80 79,
 gt 81 80 (.load 5 true false) [.t 1],
 gt 82 80 (.load 4 true false) [.t 3],
 gt 83 80 (.call 43) [.t 81, .t 82, .c (.p (.int .i64 2))],
 gt 84 80 (.bin .eql) [.t 83, .c (.p (.int .i64 4))],
 ii 85 .pick [.t 80, .t 84, .c (.p (.bool false))],
 mv 86 85,
 gt 87 86 (.load 2 true false) [.t 6],
 gt 88 86 (.call 34) [.t 87],
 gt 89 86 (.bin .eql) [.t 88, .c (.p (.int .i64 5))],
 ii 90 .pick [.t 86, .t 89, .c (.p (.bool false))],
 mv 91 90,
 gt 92 91 (.load 2 true false) [.t 6],
 gt 93 91 (.call 44) [.t 92, .c (.p (.int .i64 0)), .c (.p (.int .i64 7))],
 gt 94 91 (.bin .eql) [.t 93, .c (.p (.int .i64 17))],
 ii 95 .pick [.t 91, .t 94, .c (.p (.bool false))],
 mv 96 95,
 gt 97 96 (.load 2 true false) [.t 6],
 gt 98 96 (.load 2 true false) [.t 6],
 gt 99 96 (.call 24) [.t 97, .t 98],
 ii 100 .pick [.t 96, .t 99, .c (.p (.bool false))],
 mv 101 100,
 gt 102 101 (.mov false) [.t 2],
 ⟨some 103, (some (101, true)), .build [.int .i64 0, .int .i64 0, .int .i64 0] [(0, 1), (1, 1), (2, 1)], [.c (.p (.int .i64 1)), .c (.p (.int .i64 10)), .c (.p (.int .i64 10))]⟩,
 gt 104 101 (.call 45) [.t 102, .t 103],
 gt 105 101 (.bin .eql) [.t 104, .c (.p (.int .i64 0))],
 ii 106 .pick [.t 101, .t 105, .c (.p (.bool false))],
 mt 0 106])
 .ret)))))))))⟩
theorem k15 : chkF Tryz.prog 15 F15 = true := by kernel_rfl
def F16 : Fn := ⟨10, 2, [.cell 2 5],
 (.seq
 (.reg [ii 1 (.box 0 5) [.t 0],
 ⟨some 2, none, .alloc 1 5 [.p (.int .i64 0), .p (.int .i64 0), .p (.int .i64 0), .p (.int .i64 0), .ow 1 true []], []⟩])
 (.seq
 (.seq
 (.reg [ii 3 (.load 5 true false) [.t 1],
 ii 4 (.call 46) [.t 3],
 ⟨none, none, .store 5, [.t 1, .t 4]⟩])
 (.seq
 (.reg [ii 5 (.load 5 true false) [.t 1],
 ii 6 (.call 47) [.t 5]])
 (.cond (.t 6)
 (.seq
 (.reg [ii 7 (.load 5 true false) [.t 1],
 ⟨none, none, .store 5, [.t 2, .t 7]⟩])
 .ret)
 .skip)))
 (.seq
 (.reg [ii 8 (.bsl 1 1) [.c (.p (.int .i64 0))],
 ⟨some 9, none, .build [.int .i64 0, .int .i64 0, .int .i64 0, .int .i64 0, .sl 1 true []] [(0, 1), (1, 1), (2, 1), (3, 1), (4, 1)], [.c (.p (.int .i64 2)), .c (.p (.int .i64 1)), .c (.p (.int .i64 1)), .c (.p (.int .i64 1)), .t 8]⟩,
 ⟨none, none, .store 5, [.t 2, .t 9]⟩])
 .ret)))⟩
theorem k16 : chkF Tryz.prog 16 F16 = true := by kernel_rfl
def F17 : Fn := ⟨35, 2, [.tmp 4],
 (.seq
 (.reg [ii 2 (.box 0 5) [.t 0],
 ii 4 (.mov true) [.c (.ow 1 true [])]])
 (.seq
 (.reg [fa 8 0 2,
 ld 9 8,
 ⟨some 10, none, .mksl 1 1 24 false [.ow 3 true []], [.t 9, .t 9]⟩,
 mt 5 10])
 (.seq
 (.seq
 (.reg [mc 6 (.int .i64 0)])
 (.block 0
 (.loop [0, 4, 7, 8, 9, 10, 11, 12, 13, 14, 15, 16, 17, 18, 19, 20, 21, 22, 23, 24, 25, 26, 27, 28, 29, 30, 31, 32, 33, 34] []
 (.seq
 (.seq
 (.reg [mv 11 6,
 fa 12 0 2,
 ld 13 12,
 b2 14 .lss 11 13,
 mv 15 14,
 gt 16 15 (.mov false) [.t 6],
 gt 17 15 (.mov false) [.t 1],
 gt 18 15 .len [.t 17],
 gt 19 15 (.bin .lss) [.t 16, .t 18],
 ii 20 .pick [.t 15, .t 19, .c (.p (.bool false))]])
 (.cond (.t 20)
 .skip
 (.exit 0)))
 (.seq
 (.block 1
 (.seq
 (.reg [mv 23 1,
 mv 24 6,
 ii 25 (.iad 1) [.t 23, .t 24],
 ld 26 25,
 ii 27 (.call 48) [.t 26],
 mt 7 27])
 (.seq
 (.reg [mv 28 7,
 ii 29 (.call 49) [.t 28]])
 (.cond (.t 29)
 (.reg [mv 30 5,
 mv 31 6,
 mv 32 7,
 ii 33 (.iad 1) [.t 30, .t 31],
 ⟨none, none, .store 1, [.t 33, .t 32]⟩])
 .skip))))
 (.reg [mv 21 6,
 b1 22 .add 21 (.int .i64 1),
 mt 6 22]))))))
 (.seq
 (.reg [mv 34 5,
 mt 4 34])
 (.pre [] [1] [] .ret)))))⟩
theorem k17 : chkF Tryz.prog 17 F17 = true := by kernel_rfl
def F18 : Fn := ⟨12, 3, [.cell 4 4, .tmp 5],
 (.seq
 (.reg [ii 2 (.box 0 5) [.t 0],
 ii 3 (.box 1 4) [.t 1],
 ⟨some 4, none, .alloc 2 4 [.p (.int .i64 0), .p (.int .i64 0), .p (.int .i64 0), .ow 3 true []], []⟩,
 mc 5 (.bool false)])
 (.seq
 (.reg [ii 6 (.load 4 true false) [.t 3],
 ii 7 (.call 30) [.t 6],
 ⟨none, none, .store 4, [.t 3, .t 7]⟩])
 (.seq
 (.regd [ii 8 (.at 1 (.load 4 true false)) [.t 3],
 ii 9 (.at 0 (.load 5 true false)) [.t 2],
 ii 10 (.at 1 (.load 4 true false)) [.t 3],
 ii 11 (.pl (.call 50)) [.t 9, .t 10],
 ⟨none, none, .at 2 (.store 4), [.t 4, .t 8]⟩,
 mt 5 11])
 .ret)))⟩
theorem k18 : chkF Tryz.prog 18 F18 = true := by kernel_rfl
def F21 : Fn := ⟨31, 2, [.cell 6 2, .tmp 7],
 (.seq
 (.reg [ii 4 (.box 0 4) [.t 1],
 ⟨some 6, none, .alloc 1 2 [.p (.int .i64 0), .ow 4 true []], []⟩,
 mc 7 (.bool false)])
 (.seq
 (.reg [mv 9 0,
 fa 10 0 4,
 ld 11 10,
 mv 12 2,
 b2 13 .add 11 12,
 fa 14 1 4,
 ld 15 14,
 fa 16 2 4,
 ld 17 16,
 ⟨some 18, none, .build [.int .i64 0, .int .i64 0, .int .i64 0] [(0, 1), (1, 1), (2, 1)], [.t 13, .t 15, .t 17]⟩,
 ii 19 (.call 45) [.t 9, .t 18],
 mt 8 19])
 (.seq
 (.seq
 (.reg [mv 20 8,
 b1 21 .lss 20 (.int .i64 0)])
 (.cond (.t 21)
 (.seq
 (.reg [⟨some 22, none, .build [.int .i64 0, .sl 4 true []] [], []⟩,
 ⟨none, none, .store 2, [.t 6, .t 22]⟩,
 mc 7 (.bool false)])
 .ret)
 .skip))
 (.seq
 (.reg [mv 23 8,
 fa 24 1 4,
 ld 25 24,
 fa 26 0 4,
 ld 27 26,
 ⟨some 28, none, .build [.int .i64 0, .int .i64 0, .int .i64 0, .int .i64 0] [(0, 1), (2, 1), (3, 1)], [.t 23, .t 25, .t 27]⟩,
 ii 29 (.bsl 4 1) [.t 28],
 ⟨some 30, none, .build [.int .i64 0, .sl 4 true []] [(0, 1), (1, 1)], [.c (.p (.int .i64 1)), .t 29]⟩,
 ⟨none, none, .store 2, [.t 6, .t 30]⟩,
 mc 7 (.bool true)])
 .ret))))⟩
theorem k21 : chkF Tryz.prog 21 F21 = true := by kernel_rfl
def F45 : Fn := ⟨8, 1, [.tmp 4],
 (.seq
 (.reg [ii 3 (.box 0 3) [.t 1],
 mc 4 (.int .i64 0)])
 (.seq
 (.pre [] [0] [] (.reg [mv 5 0,
 ii 6 (.mkfn 91) [.t 3],
 ii 7 (.call 90) [.t 5, .t 6],
 mt 4 7]))
 .ret))⟩
theorem k45 : chkF Tryz.prog 45 F45 = true := by kernel_rfl
end Go.Proofs.YtoepoghmeajocaaGreatDoor.Vc
namespace Go.Proofs.YtoepoghmeajocaaGreatDoor.Ma
def insRev {α : Type} (lt : α → α → Bool) (e : α) : List α → List α
 | [] => [e]
 | b :: bs => if lt e b then b :: insRev lt e bs else e :: b :: bs
def isRev {α : Type} (lt : α → α → Bool) (l : List α) : List α := l.foldl (fun acc e => insRev lt e acc) []
def isort {α : Type} (lt : α → α → Bool) (l : List α) : List α := (isRev lt l).reverse
theorem insRev_perm {α : Type} (lt : α → α → Bool) (e : α) (l : List α) : (insRev lt e l).Perm (e :: l) := by
 induction l with
 | nil => exact .refl _
 | cons b bs ih =>
  simp only [insRev]
  split
  ·exact (ih.cons b).trans (.swap e b bs)
  ·exact .refl _
theorem isRev_append {α : Type} (lt : α → α → Bool) (l : List α) (e : α) : isRev lt (l ++ [e]) = insRev lt e (isRev lt l) := by
 simp [isRev, List.foldl_append]
theorem isRev_perm {α : Type} (lt : α → α → Bool) (l : List α) : (isRev lt l).Perm l := by
 suffices ∀ (l acc : List α), (l.foldl (fun acc e => insRev lt e acc) acc).Perm (acc ++ l) by simpa [isRev] using this l []
 intro l
 induction l with
 | nil => intro acc; simp
 | cons e es ih =>
  intro acc
  simp only [List.foldl_cons]
  refine (ih _).trans ?_
  refine ((insRev_perm lt e acc).append_right es).trans ?_
  exact List.perm_middle.symm
theorem isort_perm {α : Type} (lt : α → α → Bool) (l : List α) : (isort lt l).Perm l := (List.reverse_perm _).trans (isRev_perm lt l)
theorem isort_length {α : Type} (lt : α → α → Bool) (l : List α) : (isort lt l).length = l.length := (isort_perm lt l).length_eq
theorem insRev_sorted {α : Type} {lt : α → α → Bool} {r : α → α → Prop} (e : α) (htr : ∀ a b c, r a b → r b c → r a c) :
  ∀ (l : List α), (∀ b, b ∈ l → (lt e b = true → r e b) ∧ (lt e b = false → r b e)) → l.Pairwise (fun a b => r b a) → (insRev lt e l).Pairwise fun a b => r b a := by
 intro l
 induction l with
 | nil => intro _ _; simp [insRev]
 | cons b bs ih =>
  intro he hp
  rw [List.pairwise_cons] at hp
  simp only [insRev]
  split
  ·rename_i h
   rw [List.pairwise_cons]
   refine ⟨fun x hx => ?_, ih (fun y hy => he y (List.mem_cons_of_mem _ hy)) hp.2⟩
   rcases List.mem_cons.1 ((insRev_perm lt e bs).mem_iff.1 hx) with rfl | hx
   ·exact (he b (List.mem_cons_self ..)).1 h
   ·exact hp.1 x hx
  ·rename_i h
   have hb := (he b (List.mem_cons_self ..)).2 (by simpa using h)
   rw [List.pairwise_cons]
   refine ⟨fun x hx => ?_, List.pairwise_cons.2 hp⟩
   rcases List.mem_cons.1 hx with rfl | hx
   ·exact hb
   ·exact htr _ _ _ (hp.1 x hx) hb
theorem isort_sorted {α : Type} {lt : α → α → Bool} {r : α → α → Prop} (htr : ∀ a b c, r a b → r b c → r a c) (l : List α)
  (h : l.Pairwise fun a b => (lt b a = true → r b a) ∧ (lt b a = false → r a b)) : (isort lt l).Pairwise r := by
 unfold isort
 rw [List.pairwise_reverse]
 suffices ∀ (l acc : List α), acc.Pairwise (fun a b => r b a) → (∀ a, a ∈ acc → ∀ b, b ∈ l → (lt b a = true → r b a) ∧ (lt b a = false → r a b)) →
   l.Pairwise (fun a b => (lt b a = true → r b a) ∧ (lt b a = false → r a b)) → (l.foldl (fun acc e => insRev lt e acc) acc).Pairwise fun a b => r b a from this l [] List.Pairwise.nil (fun a h => by cases h) h
 intro l
 induction l with
 | nil => intro acc h _ _; exact h
 | cons e es ih =>
  intro acc hacc h1 h2
  rw [List.pairwise_cons] at h2
  simp only [List.foldl_cons]
  refine ih _ (insRev_sorted e htr acc (fun b hb => h1 b hb e (List.mem_cons_self ..)) hacc) (fun a ha b hb => ?_) h2.2
  rcases List.mem_cons.1 ((insRev_perm lt e acc).mem_iff.1 ha) with rfl | ha
  ·exact h2.1 b hb
  ·exact h1 a ha b (List.mem_cons_of_mem _ hb)
structure Place where
 core : Int
 x : Int
deriving DecidableEq
def Place.ahead (a b : Place) : Prop := b.x < a.x ∨ (a.x = b.x ∧ a.core < b.core)
theorem ahead_trans (a b c : Place) (h1 : a.ahead b) (h2 : b.ahead c) : a.ahead c := by unfold Place.ahead at *; omega
theorem ahead_irr (a : Place) : ¬ a.ahead a := by unfold Place.ahead; omega
theorem ahead_asym (a b : Place) (h : a.ahead b) : ¬ b.ahead a := by unfold Place.ahead at *; omega
def ltX (a b : Place) : Bool := decide (b.x < a.x)
def ltC (a b : Place) : Bool := decide (a.core < b.core)
theorem sortX (l : List Place) (h : l.Pairwise fun a b => a.core < b.core) : (isort ltX l).Pairwise Place.ahead := by
 refine isort_sorted ahead_trans l (h.imp fun {a b} hab => ⟨fun h => ?_, fun h => ?_⟩)
 ·simp only [ltX, decide_eq_true_eq] at h; exact .inl h
 ·simp only [ltX, decide_eq_false_iff_not] at h; unfold Place.ahead; omega
theorem sortC (l : List Place) (h : l.Pairwise fun a b => a.core ≠ b.core) : (isort ltC l).Pairwise fun a b => a.core < b.core := by
 refine isort_sorted (fun a b c h1 h2 => by omega) l (h.imp fun {a b} hab => ⟨fun h => ?_, fun h => ?_⟩)
 ·simpa [ltC] using h
 ·simp only [ltC, decide_eq_false_iff_not] at h; omega
def bestV (l : List Place) (n : Nat) : List Place := if l.length < n then [] else isort ltC ((isort ltX l).take n)
theorem bestV_mem {l : List Place} {n : Nat} {p : Place} (h : p ∈ bestV l n) : p ∈ l := by
 unfold bestV at h
 split at h
 ·cases h
 ·exact (isort_perm _ _).mem_iff.1 (List.mem_of_mem_take ((isort_perm _ _).mem_iff.1 h))
theorem pw_ne {l : List Place} (h : l.Pairwise fun a b => a.core < b.core) : l.Pairwise fun a b => a.core ≠ b.core := h.imp fun hab => by omega
theorem take_ne {l : List Place} (h : l.Pairwise fun a b => a.core < b.core) (n : Nat) : ((isort ltX l).take n).Pairwise fun a b => a.core ≠ b.core := by
 have h1 : (isort ltX l).Pairwise fun a b => a.core ≠ b.core := ((isort_perm ltX l).pairwise_iff (fun {a b} h => Ne.symm h)).2 (pw_ne h)
 exact h1.sublist (List.take_sublist _ _)
theorem bestV_sorted {l : List Place} {n : Nat} (h : l.Pairwise fun a b => a.core < b.core) : (bestV l n).Pairwise fun a b => a.core < b.core := by
 unfold bestV
 split
 ·exact List.Pairwise.nil
 ·exact sortC _ (take_ne h n)
theorem bestV_length {l : List Place} {n : Nat} : (bestV l n).length = if l.length < n then 0 else n := by
 unfold bestV
 split
 ·rfl
 ·rw [isort_length, List.length_take, isort_length]; omega
end Go.Proofs.YtoepoghmeajocaaGreatDoor.Ma
namespace Go.Proofs.YtoepoghmeajocaaGreatDoor.Ma
def placesFrom (move : Int) : Int → List Int → List Place
 | _, [] => []
 | k, x :: xs => if move < x then ⟨k, x⟩ :: placesFrom move (k + 1) xs else placesFrom move (k + 1) xs
def places (move : Int) (xs : List Int) : List Place := placesFrom move 0 xs
theorem placesFrom_mem {move : Int} {xs : List Int} : ∀ {k : Int} {p : Place}, p ∈ placesFrom move k xs ↔ k ≤ p.core ∧ xs[(p.core - k).toNat]? = some p.x ∧ move < p.x := by
 induction xs with
 | nil => intro k p; simp [placesFrom]
 | cons x xs ih =>
  intro k p
  have key : (k + 1 ≤ p.core ∧ xs[(p.core - (k + 1)).toNat]? = some p.x ∧ move < p.x) ↔ (k ≤ p.core ∧ p.core ≠ k ∧ (x :: xs)[(p.core - k).toNat]? = some p.x ∧ move < p.x) := by
   by_cases hk : k + 1 ≤ p.core
   ·have e : (p.core - k).toNat = (p.core - (k + 1)).toNat + 1 := by omega
    rw [e, List.getElem?_cons_succ]
    constructor
    ·exact fun ⟨_, h2, h3⟩ => ⟨by omega, by omega, h2, h3⟩
    ·exact fun ⟨_, _, h2, h3⟩ => ⟨hk, h2, h3⟩
   ·constructor
    ·exact fun h => absurd h.1 hk
    ·exact fun h => absurd h.2.1 (by omega)
  have hd : p.core = k → ((x :: xs)[(p.core - k).toNat]? = some p.x ↔ p = ⟨k, x⟩) := by
   intro e
   have e0 : (p.core - k).toNat = 0 := by omega
   rw [e0, List.getElem?_cons_zero]
   cases p
   simp only [Option.some.injEq, Place.mk.injEq] at *
   constructor
   ·exact fun h => ⟨e, h.symm⟩
   ·exact fun h => h.2.symm
  simp only [placesFrom]
  split
  ·rename_i hx
   rw [List.mem_cons, ih, key]
   constructor
   ·rintro (rfl | h)
    ·exact ⟨Int.le_refl _, by simp, hx⟩
    ·exact ⟨h.1, h.2.2.1, h.2.2.2⟩
   ·rintro ⟨h1, h2, h3⟩
    by_cases e : p.core = k
    ·exact .inl ((hd e).1 h2)
    ·exact .inr ⟨h1, e, h2, h3⟩
  ·rename_i hx
   rw [ih, key]
   constructor
   ·exact fun h => ⟨h.1, h.2.2.1, h.2.2.2⟩
   ·rintro ⟨h1, h2, h3⟩
    refine ⟨h1, fun e => ?_, h2, h3⟩
    have := (hd e).1 h2
    subst this
    exact hx h3
theorem placesFrom_sorted {move : Int} {xs : List Int} : ∀ {k : Int}, (placesFrom move k xs).Pairwise fun a b => a.core < b.core := by
 induction xs with
 | nil => exact List.Pairwise.nil
 | cons x xs ih =>
  intro k
  simp only [placesFrom]
  split
  ·refine List.pairwise_cons.2 ⟨fun p hp => ?_, ih⟩
   have := (placesFrom_mem.1 hp).1
   simp only; omega
  ·exact ih
theorem places_mem {move : Int} {xs : List Int} {p : Place} : p ∈ places move xs ↔ 0 ≤ p.core ∧ xs[p.core.toNat]? = some p.x ∧ move < p.x := by
 unfold places
 rw [placesFrom_mem]
 simp
theorem places_sorted {move : Int} {xs : List Int} : (places move xs).Pairwise fun a b => a.core < b.core := placesFrom_sorted
theorem placesFrom_append {move : Int} (xs : List Int) (x : Int) : ∀ k : Int, placesFrom move k (xs ++ [x]) = placesFrom move k xs ++ if move < x then [⟨k + xs.length, x⟩] else [] := by
 induction xs with
 | nil => intro k; simp only [List.nil_append, placesFrom]; split <;> simp
 | cons y ys ih =>
  intro k
  simp only [List.cons_append, placesFrom, ih]
  have e : k + 1 + (ys.length : Int) = k + ((y :: ys).length : Int) := by simp; omega
  rw [e]
  split <;> simp
theorem placesFrom_length {move : Int} (xs : List Int) : ∀ k : Int, (placesFrom move k xs).length ≤ xs.length := by
 induction xs with
 | nil => intro k; simp [placesFrom]
 | cons y ys ih => intro k; simp only [placesFrom]; have := ih (k + 1); split <;> simp <;> omega
theorem asc_uniq : ∀ (l m : List Int), l.Pairwise (· < ·) → m.Pairwise (· < ·) → (∀ x, x ∈ l ↔ x ∈ m) → l = m := by
 intro l
 induction l with
 | nil =>
  intro m _ _ h
  cases m with
  | nil => rfl
  | cons b m => exact absurd ((h b).2 (List.mem_cons_self ..)) (by simp)
 | cons a l ih =>
  intro m hl hm h
  cases m with
  | nil => exact absurd ((h a).1 (List.mem_cons_self ..)) (by simp)
  | cons b m =>
   rw [List.pairwise_cons] at hl hm
   have hab : a = b := by
    rcases List.mem_cons.1 ((h a).1 (List.mem_cons_self ..)) with e | ha
    ·exact e
    ·rcases List.mem_cons.1 ((h b).2 (List.mem_cons_self ..)) with e | hb
     ·exact e.symm
     ·have := hl.1 b hb; have := hm.1 a ha; omega
   subst hab
   rw [ih m hl.2 hm.2 fun x => ?_]
   constructor
   ·intro hx
    rcases List.mem_cons.1 ((h x).1 (List.mem_cons_of_mem _ hx)) with e | h'
    ·have := hl.1 x hx; omega
    ·exact h'
   ·intro hx
    rcases List.mem_cons.1 ((h x).2 (List.mem_cons_of_mem _ hx)) with e | h'
    ·have := hm.1 x hx; omega
    ·exact h'
section greedy
variable {l : List Place}
theorem greedy_some {L : List Place} (h : L.Pairwise Place.ahead) {i : Nat} {p : Place} (hp : p ∈ L) (hn : p ∉ L.take i) (ha : ∀ q, q ∈ L → q ∉ L.take i → q ≠ p → p.ahead q) : L[i]? = some p := by
 obtain ⟨j, hj, e⟩ := List.mem_iff_getElem.1 hp
 have hij : i ≤ j := by
  refine Nat.le_of_not_lt fun hlt => hn ?_
  rw [← e]
  exact List.mem_iff_getElem.2 ⟨j, by simp; omega, by simp⟩
 have hi : i < L.length := by omega
 by_cases hji : j = i
 ·subst hji; rw [List.getElem?_eq_getElem hj, e]
 ·have h1 := List.pairwise_iff_getElem.1 h i j hi hj (by omega)
  rw [e] at h1
  have h2 : L[i] ∉ L.take i := by
   intro hm
   obtain ⟨k, hk, ek⟩ := List.mem_iff_getElem.1 hm
   rw [List.getElem_take] at ek
   have := List.pairwise_iff_getElem.1 h k i (by simp at hk; omega) hi (by simp at hk; omega)
   rw [ek] at this
   exact ahead_irr _ this
  have h3 := ha L[i] (List.getElem_mem _) h2 (fun e' => by rw [e'] at h1; exact ahead_irr _ h1)
  exact absurd h1 (ahead_asym _ _ h3)
end greedy
structure Pc where
 core : Int
 off : Int
 len : Int
 c : Int
deriving DecidableEq
def piecesV (lag w move : Int) : Int → Int → List Place → List Pc × Int
 | left, _, [] => ([], left)
 | left, k, p :: ps => if left = 0 then ([], left) else
   let mv := if k = 0 then 0 else move
   let use := min (p.x - mv) left
   let r := piecesV lag w move (left - use) (k + 1) ps
   (⟨p.core, k * (w + lag), w, mv + use⟩ :: r.1, r.2)
noncomputable def windowV (lag move C D T : Int) (ls : List (List Ld)) : Nat → Nat → List Pc
 | 0, _ => []
 | fuel + 1, n => let w := sizeV D lag n
  if w = 0 then [] else
   let r := piecesV lag w move C 0 (bestV (places move (ls.map fun l => mostV l w T w)) n)
   if r.2 = 0 ∧ 1 < r.1.length then r.1 else windowV lag move C D T ls fuel (n + 1)
end Go.Proofs.YtoepoghmeajocaaGreatDoor.Ma
namespace Go.Proofs.YtoepoghmeajocaaGreatDoor.Ma
def Pc.ok (cores : Int) (p : Pc) : Bool := decide (0 ≤ p.core) && decide (p.core < cores) && (decide (0 ≤ p.off) && decide (p.off ≤ 200)) && (decide (1 ≤ p.c) && decide (p.c ≤ p.len) && decide (p.off + p.len ≤ 200))
theorem Pc.ok_iff {cores : Int} {p : Pc} : p.ok cores = true ↔ (0 ≤ p.core ∧ p.core < cores) ∧ (0 ≤ p.off ∧ p.off ≤ 200) ∧ 1 ≤ p.c ∧ p.c ≤ p.len ∧ p.off + p.len ≤ 200 := by
 simp [Pc.ok, and_assoc]
def sumC : List Pc → Int
 | [] => 0
 | p :: ps => p.c + sumC ps
theorem sumC_append (a b : List Pc) : sumC (a ++ b) = sumC a + sumC b := by
 induction a with
 | nil => simp [sumC]
 | cons x xs ih => simp only [List.cons_append, sumC, ih]; omega
def chain (lag move : Int) : List Pc → Prop
 | a :: b :: ps => (a.off + a.len + lag ≤ b.off ∧ move < b.c) ∧ chain lag move (b :: ps)
 | _ => True
def lastEnd : List Pc → Int
 | [] => 0
 | [p] => p.off + p.len
 | _ :: p :: ps => lastEnd (p :: ps)
def firstOff : List Pc → Int
 | [] => 0
 | p :: _ => p.off
def kindOk (D : Int) (nsec : Nat) (kind : Int) (ps : List Pc) : Prop :=
 (kind = 1 ∧ ∃ p, ps = [p] ∧ p.len = D) ∨ (kind = 2 ∧ 2 ≤ ps.length ∧ nsec = 0) ∨ (kind = 3 ∧ nsec = 0 ∧ ∃ p q, ps = [p, q] ∧ p.len = p.c)
structure PlanOk (cores lag move C D : Int) (nsec : Nat) (kind : Int) (ps : List Pc) : Prop where
 pcs : ∀ p, p ∈ ps → p.ok cores = true
 apart : ps.Pairwise fun a b => a.core ≠ b.core
 one : ps ≠ []
 first : firstOff ps = 0
 next : chain lag move ps
 sum : sumC ps = C + (ps.length - 1 : Int) * move
 last : lastEnd ps ≤ D
 kind : kindOk D nsec kind ps
open Classical in
noncomputable def planB (cores lag move C D : Int) (nsec : Nat) (kind : Int) (ps : List Pc) : Bool := decide (PlanOk cores lag move C D nsec kind ps)
theorem planB_iff {cores lag move C D : Int} {nsec : Nat} {kind : Int} {ps : List Pc} : planB cores lag move C D nsec kind ps = true ↔ PlanOk cores lag move C D nsec kind ps := by simp [planB]
structure Lim (cores lag move C D T : Int) : Prop where
 c1 : 1 ≤ cores
 c2 : cores ≤ 6
 l1 : 0 ≤ lag
 l2 : lag ≤ 5
 m1 : 0 ≤ move
 m2 : move ≤ 5
 C1 : 1 ≤ C
 CD : C ≤ D
 DT : D ≤ T
 T2 : T ≤ 200
variable {cores lag move C D T : Int}
theorem sizeV_bound {n : Int} (hs : sizeV D lag n ≠ 0) : 1 ≤ n ∧ 1 ≤ sizeV D lag n ∧ n * sizeV D lag n + (n - 1) * lag ≤ D ∧ D < n * sizeV D lag n + (n - 1) * lag + n := by
 unfold sizeV at *
 split at hs
 ·exact absurd rfl hs
 ·rename_i hc
  rw [if_neg hc]
  have h1 := Int.mul_ediv_add_emod (D - (n - 1) * lag) n
  have h2 := Int.emod_lt_of_pos (D - (n - 1) * lag) (show 0 < n by omega)
  have h3 := Int.emod_nonneg (D - (n - 1) * lag) (show n ≠ 0 by omega)
  have h4 : 1 ≤ (D - (n - 1) * lag) / n := Int.le_ediv_of_mul_le (by omega) (by omega)
  omega
theorem piecesV_spec (lag w move : Int) (hm : 0 ≤ move) : ∀ (ps : List Place) (left k : Int), 0 ≤ left → 0 ≤ k → (∀ p, p ∈ ps → move < p.x) →
  0 ≤ (piecesV lag w move left k ps).2 ∧ (piecesV lag w move left k ps).2 ≤ left ∧ (piecesV lag w move left k ps).1.length ≤ ps.length ∧
  (∀ (i : Nat) q, (piecesV lag w move left k ps).1[i]? = some q → ∃ p, ps[i]? = some p ∧ q.core = p.core ∧ q.off = (k + i) * (w + lag) ∧ q.len = w ∧ 1 ≤ q.c ∧ q.c ≤ p.x ∧ (0 < k + i → move < q.c)) ∧
  sumC (piecesV lag w move left k ps).1 = left - (piecesV lag w move left k ps).2 + ((piecesV lag w move left k ps).1.length : Int) * move - (if k = 0 ∧ (piecesV lag w move left k ps).1 ≠ [] then move else 0) := by
 intro ps
 induction ps with
 | nil => intro left k h1 _ _; simp [piecesV, sumC]; omega
 | cons p ps ih =>
  intro left k h1 hk hx
  unfold piecesV
  split
  ·rename_i h; simp [sumC]; omega
  ·rename_i hne
   have hp := hx p (List.mem_cons_self ..)
   simp only
   generalize hmv : (if k = 0 then (0 : Int) else move) = mv
   have hmv' : mv ≤ move ∧ 0 ≤ mv ∧ (k ≠ 0 → mv = move) ∧ (k = 0 → mv = 0) := by subst hmv; split <;> omega
   obtain ⟨i1, i2, i3, i4, i5⟩ := ih (left - min (p.x - mv) left) (k + 1) (by omega) (by omega) fun q hq => hx q (List.mem_cons_of_mem _ hq)
   refine ⟨i1, by omega, by simp; omega, fun i q hq => ?_, ?_⟩
   ·cases i with
    | zero =>
     simp only [List.getElem?_cons_zero, Option.some.injEq] at hq
     subst hq
     exact ⟨p, rfl, rfl, by simp, rfl, by simp only; omega, by simp only; omega, fun hk0 => by simp only; simp at hk0; have := hmv'.2.2.1 (by omega); omega⟩
    | succ i =>
     rw [List.getElem?_cons_succ] at hq
     obtain ⟨p', h1, h2, h3, h4⟩ := i4 i q hq
     refine ⟨p', by simpa using h1, h2, ?_, ?_⟩
     ·rw [h3]; congr 1; simp; omega
     ·have e : k + ((i + 1 : Nat) : Int) = k + 1 + (i : Int) := by simp; omega
      rw [e]; exact h4
   ·simp only [sumC, i5, List.length_cons, Int.natCast_succ, Int.add_mul, Int.one_mul]
    have e1 : ¬ (k + 1 = 0 ∧ (piecesV lag w move (left - min (p.x - mv) left) (k + 1) ps).1 ≠ []) := by omega
    rw [if_neg e1]
    by_cases hk0 : k = 0
    ·rw [if_pos ⟨hk0, by simp⟩]; have := hmv'.2.2.2 hk0; omega
    ·rw [if_neg fun h => hk0 h.1]; have := hmv'.2.2.1 hk0; omega
structure WinOk (lag move C D T : Int) (ls : List (List Ld)) (ps : List Pc) (w : Int) : Prop where
 w1 : 1 ≤ w
 two : 2 ≤ ps.length
 le : ps.length ≤ ls.length
 time : (ps.length : Int) * w + (ps.length - 1 : Int) * lag ≤ D
 sum : sumC ps = C + (ps.length - 1 : Int) * move
 asc : ps.Pairwise fun a b => a.core < b.core
 each : ∀ (i : Nat) q, ps[i]? = some q → q.off = (i : Int) * (w + lag) ∧ q.len = w ∧ 1 ≤ q.c ∧ q.c ≤ w ∧ (0 < i → move < q.c) ∧ 0 ≤ q.core ∧ ∃ l, ls[q.core.toNat]? = some l ∧ fitW l q.c w T = true
theorem win_step (hl : 0 ≤ lag) (hm : 0 ≤ move) (hC : 1 ≤ C) {ls : List (List Ld)} {n : Nat} (hs : sizeV D lag n ≠ 0) (hr : (piecesV lag (sizeV D lag n) move C 0 (bestV (places move (ls.map fun l => mostV l (sizeV D lag n) T (sizeV D lag n))) n)).2 = 0 ∧ 1 < (piecesV lag (sizeV D lag n) move C 0 (bestV (places move (ls.map fun l => mostV l (sizeV D lag n) T (sizeV D lag n))) n)).1.length) :
  WinOk lag move C D T ls (piecesV lag (sizeV D lag n) move C 0 (bestV (places move (ls.map fun l => mostV l (sizeV D lag n) T (sizeV D lag n))) n)).1 (sizeV D lag n) := by
 obtain ⟨s1, s2, s3, s4⟩ := sizeV_bound hs
 generalize sizeV D lag n = w at *
 generalize hb : bestV (places move (ls.map fun l => mostV l w T w)) n = b at *
 have hmem : ∀ p, p ∈ b → 0 ≤ p.core ∧ (ls.map fun l => mostV l w T w)[p.core.toNat]? = some p.x ∧ move < p.x := fun p hp => by
  subst hb; exact places_mem.1 (bestV_mem hp)
 have hsort : b.Pairwise fun a b => a.core < b.core := by subst hb; exact bestV_sorted places_sorted
 have hlen : b.length ≤ n := by subst hb; rw [bestV_length]; split <;> omega
 have hlen2 : b.length ≤ ls.length := by
  have h0 : (places move (ls.map fun l => mostV l w T w)).length ≤ ls.length := by
   have := placesFrom_length (move := move) (ls.map fun l => mostV l w T w) 0
   simpa [places] using this
  subst hb; rw [bestV_length]; split <;> omega
 obtain ⟨i1, i2, i3, i4, i5⟩ := piecesV_spec lag w move hm b C 0 (by omega) (by omega) fun p hp => (hmem p hp).2.2
 generalize hps : piecesV lag w move C 0 b = r at *
 obtain ⟨ps, left⟩ := r
 simp only at *
 obtain ⟨rfl, hr⟩ := hr
 refine ⟨s2, by omega, by omega, ?_, ?_, ?_, fun i q hq => ?_⟩
 ·have h1 : (ps.length : Int) ≤ n := by omega
  have h2 : (ps.length : Int) * w ≤ n * w := Int.mul_le_mul_of_nonneg_right h1 (by omega)
  have h3 : (ps.length - 1 : Int) * lag ≤ (n - 1 : Int) * lag := Int.mul_le_mul_of_nonneg_right (by omega) hl
  omega
 ·rw [i5, if_pos ⟨trivial, fun e => by subst e; simp at hr⟩, Int.sub_mul]; omega
 ·rw [List.pairwise_iff_getElem]
  intro i j hi hj hij
  obtain ⟨p, h1, h2, _⟩ := i4 i ps[i] (List.getElem?_eq_getElem hi)
  obtain ⟨q, k1, k2, _⟩ := i4 j ps[j] (List.getElem?_eq_getElem hj)
  obtain ⟨h3, e1⟩ := List.getElem?_eq_some_iff.1 h1
  obtain ⟨k3, e2⟩ := List.getElem?_eq_some_iff.1 k1
  have := List.pairwise_iff_getElem.1 hsort i j h3 k3 hij
  rw [h2, k2, ← e1, ← e2]; exact this
 ·obtain ⟨p, h1, h2, h3, h4, h5, h6, h7⟩ := i4 i q hq
  obtain ⟨m1, m2, m3⟩ := hmem p (List.mem_of_getElem? h1)
  rw [List.getElem?_map] at m2
  cases hl' : ls[p.core.toNat]? with
  | none => rw [hl'] at m2; simp at m2
  | some l =>
   rw [hl'] at m2
   simp only [Option.map_some, Option.some.injEq] at m2
   have hb' := (mostV_bound l w T w).2 (by omega)
   rw [m2] at hb'
   refine ⟨by simpa using h3, h4, h5, by omega, fun hi => h7 (by omega), by omega, l, by rw [h2]; exact hl', fitW_less hb'.2.2 h5 h6⟩
theorem windowV_spec (hl : 0 ≤ lag) (hm : 0 ≤ move) (hC : 1 ≤ C) {ls : List (List Ld)} : ∀ (fuel n : Nat), windowV lag move C D T ls fuel n ≠ [] → ∃ w, WinOk lag move C D T ls (windowV lag move C D T ls fuel n) w := by
 intro fuel
 induction fuel with
 | zero => intro n h; exact absurd rfl h
 | succ fuel ih =>
  intro n h
  simp only [windowV] at h ⊢
  split at h
  ·exact absurd rfl h
  ·rename_i hs
   rw [if_neg hs]
   split at h
   ·rename_i hr; rw [if_pos hr]; exact ⟨_, win_step hl hm hC hs hr⟩
   ·rename_i hr; rw [if_neg hr]; exact ih _ h
theorem lastEnd_eq : ∀ {ps : List Pc} {q : Pc}, ps[ps.length - 1]? = some q → lastEnd ps = q.off + q.len := by
 intro ps
 induction ps with
 | nil => intro q h; simp at h
 | cons a ps ih =>
  intro q h
  cases ps with
  | nil => simp only [List.length_cons, List.length_nil, Nat.zero_add, Nat.sub_self, List.getElem?_cons_zero, Option.some.injEq] at h; subst h; rfl
  | cons b ps => exact ih (by simpa using h)
def firstFrom (f : Nat → List Pc) : Nat → Nat → List Pc
 | 0, _ => []
 | n + 1, i => if f i = [] then firstFrom f n (i + 1) else f i
theorem firstFrom_spec {f : Nat → List Pc} : ∀ (n i : Nat), firstFrom f n i ≠ [] → ∃ j, i ≤ j ∧ j < i + n ∧ firstFrom f n i = f j := by
 intro n
 induction n with
 | zero => intro i h; exact absurd rfl h
 | succ n ih =>
  intro i h
  simp only [firstFrom] at h ⊢
  split at h
  ·rename_i e
   rw [if_pos e]
   obtain ⟨j, h1, h2, h3⟩ := ih (i + 1) h
   exact ⟨j, by omega, by omega, h3⟩
  ·rename_i e
   rw [if_neg e]
   exact ⟨i, by omega, by omega, rfl⟩
noncomputable def pairV (lag move C D T : Int) (ls : List (List Ld)) (a b : Nat) : List Pc :=
 if a = b then [] else
 let x := tightV (ls[a]?.getD []) T (C - 1)
 if 1 ≤ x ∧ C - x + move ≤ D - x - lag ∧ fitW (ls[b]?.getD []) (C - x + move) (D - x - lag) T = true then [⟨a, 0, x, x⟩, ⟨b, x + lag, D - x - lag, C - x + move⟩] else []
noncomputable def zeroV (lag move C D T : Int) (ls : List (List Ld)) : List Pc :=
 firstFrom (fun a => firstFrom (fun b => pairV lag move C D T ls a b) ls.length 0) ls.length 0
structure ZeroOk (lag move C D T : Int) (ls : List (List Ld)) (ps : List Pc) : Prop where
 it : ∃ (a b : Nat) (x : Int), a ≠ b ∧ a < ls.length ∧ b < ls.length ∧ 1 ≤ x ∧ x ≤ C - 1 ∧ C - x + move ≤ D - x - lag ∧ fitW (ls[a]?.getD []) x x T = true ∧ fitW (ls[b]?.getD []) (C - x + move) (D - x - lag) T = true ∧
  ps = [⟨a, 0, x, x⟩, ⟨b, x + lag, D - x - lag, C - x + move⟩]
theorem zeroV_spec {ls : List (List Ld)} (h : zeroV lag move C D T ls ≠ []) : ZeroOk lag move C D T ls (zeroV lag move C D T ls) := by
 unfold zeroV at *
 obtain ⟨a, _, ha, ea⟩ := firstFrom_spec _ _ h
 rw [ea] at h
 obtain ⟨b, _, hb, eb⟩ := firstFrom_spec _ _ h
 rw [ea, eb]
 rw [eb] at h
 unfold pairV at *
 split at h
 ·exact absurd rfl h
 ·rename_i hab
  rw [if_neg hab]
  simp only at h ⊢
  split at h
  ·rename_i hc
   rw [if_pos hc]
   have ht := (tightV_bound (ls[a]?.getD []) T (C - 1)).2 (by omega)
   exact ⟨⟨a, b, _, hab, by omega, by omega, hc.1, ht.1, hc.2.1, ht.2.2, hc.2.2, rfl⟩⟩
  ·exact absurd rfl h
end Go.Proofs.YtoepoghmeajocaaGreatDoor.Ma
namespace Go.Proofs.YtoepoghmeajocaaGreatDoor.Ma
structure Inner (xs : List Int) (move : Int) (taken : List Bool) (j : Nat) (k : Int) : Prop where
 none : k < 0 → k = -1 ∧ ∀ m x, m < j → taken[m]? = some false → xs[m]? = some x → x ≤ move
 some : ¬ k < 0 → ∃ y, k < j ∧ taken[k.toNat]? = some false ∧ xs[k.toNat]? = some y ∧ move < y ∧ ∀ m x, m < j → (m : Int) ≠ k → taken[m]? = some false → xs[m]? = some x → move < x → x < y ∨ (x = y ∧ k < m)
theorem Inner.start (xs : List Int) (move : Int) (taken : List Bool) : Inner xs move taken 0 (-1) :=
 ⟨fun _ => ⟨rfl, fun m x h => absurd h (Nat.not_lt_zero m)⟩, fun h => absurd (by omega) h⟩
theorem Inner.skip {xs : List Int} {move : Int} {taken : List Bool} {j : Nat} {k : Int} (h : Inner xs move taken j k) {b : Bool} {x : Int} (hb : taken[j]? = Option.some b) (hx : xs[j]? = Option.some x)
  (hn : b = true ∨ x ≤ move ∨ (¬ k < 0 ∧ ∀ y, xs[k.toNat]? = Option.some y → x ≤ y)) : Inner xs move taken (j + 1) k := by
 refine ⟨fun hk => ⟨(h.none hk).1, fun m z hm hz hxm => ?_⟩, fun hk => ?_⟩
 ·by_cases e : m = j
  ·subst e
   rw [hb] at hz; rw [hx] at hxm
   injection hz with hz; injection hxm with hxm
   subst hz; subst hxm
   rcases hn with h1 | h1 | h1
   ·cases h1
   ·exact h1
   ·exact absurd hk h1.1
  ·exact (h.none hk).2 m z (by omega) hz hxm
 ·obtain ⟨y, h1, h2, h3, h4, h5⟩ := h.some hk
  refine ⟨y, by omega, h2, h3, h4, fun m z hm hmk hz hxm hmv => ?_⟩
  by_cases e : m = j
  ·subst e
   rw [hb] at hz; rw [hx] at hxm
   injection hz with hz; injection hxm with hxm
   subst hz; subst hxm
   rcases hn with h' | h' | h'
   ·cases h'
   ·omega
   ·have := h'.2 y h3; omega
  ·exact h5 m z (by omega) hmk hz hxm hmv
theorem Inner.take {xs : List Int} {move : Int} {taken : List Bool} {j : Nat} {k : Int} (h : Inner xs move taken j k) {x : Int} (hb : taken[j]? = Option.some false) (hx : xs[j]? = Option.some x) (hm : move < x)
  (hn : k < 0 ∨ ∃ y, xs[k.toNat]? = Option.some y ∧ y < x) : Inner xs move taken (j + 1) j := by
 refine ⟨fun hk => absurd hk (by omega), fun _ => ⟨x, by omega, by simpa using hb, by simpa using hx, hm, fun m z hmj hmk hz hxm hmv => ?_⟩⟩
 have hmj' : m < j := by omega
 rcases hn with hk | ⟨y, hy, hlt⟩
 ·have := (h.none hk).2 m z hmj' hz hxm; omega
 ·by_cases hk : k < 0
  ·have := (h.none hk).2 m z hmj' hz hxm; omega
  ·obtain ⟨y', h1, h2, h3, h4, h5⟩ := h.some hk
   rw [hy] at h3
   injection h3 with h3
   subst h3
   by_cases e : (m : Int) = k
   ·have e' : k.toNat = m := by omega
    rw [e', hxm] at hy
    injection hy with hy
    omega
   ·have := h5 m z hmj' e hz hxm hmv; omega
def ordered (move : Int) (xs : List Int) : List Place := isort ltX (places move xs)
theorem ordered_sorted {move : Int} {xs : List Int} : (ordered move xs).Pairwise Place.ahead := sortX _ places_sorted
theorem ordered_mem {move : Int} {xs : List Int} {p : Place} : p ∈ ordered move xs ↔ 0 ≤ p.core ∧ xs[p.core.toNat]? = some p.x ∧ move < p.x := by
 unfold ordered; rw [(isort_perm _ _).mem_iff, places_mem]
theorem ordered_length {move : Int} {xs : List Int} : (ordered move xs).length = (places move xs).length := isort_length _ _
structure Outer (xs : List Int) (move : Int) (i : Nat) (taken : List Bool) : Prop where
 len : taken.length = xs.length
 le : i ≤ (places move xs).length
 iff : ∀ m : Nat, taken[m]? = some true ↔ ∃ p, p ∈ (ordered move xs).take i ∧ p.core = m
theorem Outer.start (xs : List Int) (move : Int) : Outer xs move 0 (List.replicate xs.length false) := by
 refine ⟨by simp, Nat.zero_le _, fun m => ?_⟩
 simp [List.getElem?_replicate]
theorem Outer.false {xs : List Int} {move : Int} {i : Nat} {taken : List Bool} (h : Outer xs move i taken) {p : Place} (hp : p ∈ ordered move xs) (hn : p ∉ (ordered move xs).take i) : taken[p.core.toNat]? = some false := by
 have hm := ordered_mem.1 hp
 have hlt := (List.getElem?_eq_some_iff.1 hm.2.1).1
 rw [← h.len] at hlt
 rw [List.getElem?_eq_getElem hlt]
 cases hb : taken[p.core.toNat] with
 | false => rfl
 | true =>
  obtain ⟨q, hq, e⟩ := (h.iff p.core.toNat).1 (by rw [List.getElem?_eq_getElem hlt, hb])
  have hq' := ordered_mem.1 (List.mem_of_mem_take hq)
  have e1 : q.core = p.core := by omega
  have e2 : q.x = p.x := by have := hq'.2.1; rw [e1, hm.2.1] at this; injection this with h; exact h.symm
  have : q = p := by cases q; cases p; simp only [Place.mk.injEq] at *; exact ⟨e1, e2⟩
  subst this
  exact absurd hq hn
theorem Outer.next {xs : List Int} {move : Int} {i : Nat} {taken : List Bool} (h : Outer xs move i taken) {k : Int} (hi : Inner xs move taken xs.length k) (hk : ¬ k < 0) : Outer xs move (i + 1) (taken.set k.toNat true) := by
 obtain ⟨y, h1, h2, h3, h4, h5⟩ := hi.some hk
 have hp : (⟨k, y⟩ : Place) ∈ ordered move xs := ordered_mem.2 ⟨by simp only; omega, h3, h4⟩
 have hn : (⟨k, y⟩ : Place) ∉ (ordered move xs).take i := fun hm => by
  have := (h.iff k.toNat).2 ⟨_, hm, by simp only; omega⟩
  rw [h2] at this
  cases this
 have hL := greedy_some ordered_sorted hp hn fun q hq hnq hne => by
  have hm := ordered_mem.1 hq
  have hqk : q.core ≠ k := fun e => hne (by
   have := hm.2.1
   rw [e, h3] at this
   injection this with this
   cases q
   simp only [Place.mk.injEq] at *
   exact ⟨e, this.symm⟩)
  have := h5 q.core.toNat q.x (List.getElem?_eq_some_iff.1 hm.2.1).1 (by omega) (h.false hq hnq) hm.2.1 hm.2.2
  unfold Place.ahead
  simp only
  omega
 have hlt := (List.getElem?_eq_some_iff.1 hL).1
 rw [ordered_length] at hlt
 refine ⟨by rw [List.length_set]; exact h.len, hlt, fun m => ?_⟩
 have htk : (ordered move xs).take (i + 1) = (ordered move xs).take i ++ [⟨k, y⟩] := by rw [List.take_add_one, hL]; rfl
 rw [htk, List.getElem?_set]
 have hkl : k.toNat < taken.length := (List.getElem?_eq_some_iff.1 h2).1
 split
 ·rename_i e
  subst e
  exact ⟨fun _ => ⟨⟨k, y⟩, by simp, by simp only; omega⟩, fun _ => rfl⟩
 ·rename_i e
  rw [h.iff m]
  constructor
  ·rintro ⟨p, hp, e'⟩; exact ⟨p, by simp [hp], e'⟩
  ·rintro ⟨p, hp, e'⟩
   rcases List.mem_append.1 hp with hp | hp
   ·exact ⟨p, hp, e'⟩
   ·simp only [List.mem_singleton] at hp; subst hp; simp only at e'; omega
def takenTo (taken : List Bool) : Nat → List Int
 | 0 => []
 | j + 1 => if taken[j]? = some true then takenTo taken j ++ [(j : Int)] else takenTo taken j
theorem takenTo_mem {taken : List Bool} {j : Nat} {x : Int} : x ∈ takenTo taken j ↔ 0 ≤ x ∧ x < j ∧ taken[x.toNat]? = some true := by
 induction j with
 | zero => simp [takenTo]; omega
 | succ j ih =>
  have key : ∀ {A : Prop}, (x = (j : Int) → A) → (x ≠ (j : Int) → A) → A := fun h1 h2 => (Classical.em (x = (j : Int))).elim h1 h2
  simp only [takenTo]
  split
  ·rename_i h
   rw [List.mem_append, ih, List.mem_singleton]
   constructor
   ·rintro (⟨h1, h2, h3⟩ | rfl)
    ·exact ⟨h1, by omega, h3⟩
    ·exact ⟨by omega, by omega, by simpa using h⟩
   ·rintro ⟨h1, h2, h3⟩
    exact key (fun e => .inr e) fun e => .inl ⟨h1, by omega, h3⟩
  ·rename_i h
   rw [ih]
   constructor
   ·rintro ⟨h1, h2, h3⟩; exact ⟨h1, by omega, h3⟩
   ·rintro ⟨h1, h2, h3⟩
    refine key (fun e => ?_) fun e => ⟨h1, by omega, h3⟩
    subst e
    exact absurd (by simpa using h3) h
theorem takenTo_sorted {taken : List Bool} {j : Nat} : (takenTo taken j).Pairwise (· < ·) := by
 induction j with
 | zero => exact List.Pairwise.nil
 | succ j ih =>
  simp only [takenTo]
  split
  ·rw [List.pairwise_append]
   refine ⟨ih, by simp, fun a ha b hb => ?_⟩
   have := (takenTo_mem.1 ha).2.1
   simp only [List.mem_singleton] at hb
   omega
  ·exact ih
theorem Outer.end {xs : List Int} {move : Int} {n : Nat} {taken : List Bool} (h : Outer xs move n taken) : takenTo taken xs.length = (bestV (places move xs) n).map (·.core) := by
 refine asc_uniq _ _ takenTo_sorted (List.pairwise_map.2 (bestV_sorted places_sorted)) fun x => ?_
 rw [takenTo_mem, List.mem_map]
 have hb : bestV (places move xs) n = isort ltC ((ordered move xs).take n) := by unfold bestV; rw [if_neg (by have := h.le; omega)]; rfl
 rw [hb]
 constructor
 ·rintro ⟨h1, h2, h3⟩
  obtain ⟨p, hp, e⟩ := (h.iff x.toNat).1 h3
  exact ⟨p, (isort_perm _ _).mem_iff.2 hp, by omega⟩
 ·rintro ⟨p, hp, rfl⟩
  have hp := (isort_perm _ _).mem_iff.1 hp
  have hm := ordered_mem.1 (List.mem_of_mem_take hp)
  have hlt := (List.getElem?_eq_some_iff.1 hm.2.1).1
  exact ⟨hm.1, by omega, (h.iff _).2 ⟨p, hp, by omega⟩⟩
theorem bestV_x {xs : List Int} {move : Int} {n : Nat} {p : Place} (h : p ∈ bestV (places move xs) n) : 0 ≤ p.core ∧ xs[p.core.toNat]? = some p.x ∧ move < p.x := places_mem.1 (bestV_mem h)
end Go.Proofs.YtoepoghmeajocaaGreatDoor.Ma
namespace Go.Proofs.YtoepoghmeajocaaGreatDoor.Vc
open Go.RowKit Ma
theorem maxLen_eq : maxLen = 9223372036854775807 := by decide
theorem clone48 (nl : Bool) (l : List Ld) (hnl : nl = true → l = []) (hl : l.length ≤ 1000) : PureCall Tryz.prog 92 [sL nl l] (.ow 3 nl (l.map eL)) := by
 have hm := maxLen_eq
 cases nl with
 | true =>
  have := hnl rfl
  subst this
  refine Fn.run k92 rfl ?_
  generalize Tryz.prog = P at *
  (repeat' ((conv => whnf); first | exact trivial | with_reducible refine zX ?_ | refine ⟨rfl, ?_⟩ | refine ⟨_, rfl, ?_⟩ | with_reducible refine zP ?_ | with_reducible refine zL ?_ | refine ⟨fun _ => ?_, fun _ => ?_⟩ | refine zn ?_ | refine zb rfl ?_ | refine zX ?_ | refine zo rfl ?_ | refine zs ?_ | intro _)); all_goals (try (conv => whnf))
  all_goals rfl
 | false =>
  refine Fn.run k92 rfl ?_
  generalize Tryz.prog = P at *
  (repeat' ((conv => whnf); first | exact trivial | with_reducible refine zX ?_ | refine ⟨rfl, ?_⟩ | refine ⟨_, rfl, ?_⟩ | with_reducible refine zP ?_ | with_reducible refine zL ?_ | refine ⟨fun _ => ?_, fun _ => ?_⟩ | refine zn ?_ | refine zb rfl ?_ | refine zX ?_ | refine zo rfl ?_ | refine zs ?_ | intro _)); all_goals (try (conv => whnf))
  all_goals rfl
theorem snoc (nl : Bool) (l : List Ld) (x : Ld) : PV.sl 3 nl (l.map eL ++ [eL x]) = sL nl (l ++ [x]) := by simp [sL]
theorem with92 (nl : Bool) (l : List Ld) (hnl : nl = true → l = []) (hl : l.length ≤ 1000) (x : Ld) : PureCall Tryz.prog 131 [sL nl l, eL x] (.p (.bool (fitsB (l ++ [x])))) := by
 have hm := maxLen_eq
 have hc := clone48 nl l hnl hl
 have hf := fits47 false (l ++ [x])
 rw [← snoc] at hf
 cases nl with
 | true =>
  refine Fn.run k131 rfl ?_
  generalize Tryz.prog = P at *
  (repeat' ((conv => whnf); first | exact trivial | with_reducible refine zX ?_ | refine ⟨rfl, ?_⟩ | refine ⟨_, rfl, ?_⟩ | with_reducible refine zP ?_ | with_reducible refine zL ?_ | refine ⟨fun _ => ?_, fun _ => ?_⟩ | refine zn ?_ | refine zb rfl ?_ | refine zX ?_ | refine zo rfl ?_ | refine zs ?_ | intro _)); all_goals (try (conv => whnf))
  all_goals rfl
 | false =>
  refine Fn.run k131 rfl ?_
  generalize Tryz.prog = P at *
  (repeat' ((conv => whnf); first | exact trivial | with_reducible refine zX ?_ | refine ⟨rfl, ?_⟩ | refine ⟨_, rfl, ?_⟩ | with_reducible refine zP ?_ | with_reducible refine zL ?_ | refine ⟨fun _ => ?_, fun _ => ?_⟩ | refine zn ?_ | refine zb rfl ?_ | refine zX ?_ | refine zo rfl ?_ | refine zs ?_ | intro _)); all_goals (try (conv => whnf))
  all_goals rfl
theorem core46 (nl : Bool) (l : List Ld) (hnl : nl = true → l = []) (hl : l.length ≤ 1000) (x : Ld) : PureCall Tryz.prog 91 [sL nl l, .ptr [.int .i64 x.c, .int .i64 x.d, .int .i64 x.t] 0] (.p (.bool (fitsB (l ++ [x])))) := by
 have hm := maxLen_eq
 have hc := clone48 nl l hnl hl
 have hf := fits47 false (l ++ [x])
 rw [← snoc] at hf
 cases nl with
 | true =>
  refine Fn.run k91 rfl ?_
  generalize Tryz.prog = P at *
  (repeat' ((conv => whnf); first | exact trivial | with_reducible refine zX ?_ | refine ⟨rfl, ?_⟩ | refine ⟨_, rfl, ?_⟩ | with_reducible refine zP ?_ | with_reducible refine zL ?_ | refine ⟨fun _ => ?_, fun _ => ?_⟩ | refine zn ?_ | refine zb rfl ?_ | refine zX ?_ | refine zo rfl ?_ | refine zs ?_ | intro _)); all_goals (try (conv => whnf))
  all_goals rfl
 | false =>
  refine Fn.run k91 rfl ?_
  generalize Tryz.prog = P at *
  (repeat' ((conv => whnf); first | exact trivial | with_reducible refine zX ?_ | refine ⟨rfl, ?_⟩ | refine ⟨_, rfl, ?_⟩ | with_reducible refine zP ?_ | with_reducible refine zL ?_ | refine ⟨fun _ => ?_, fun _ => ?_⟩ | refine zn ?_ | refine zb rfl ?_ | refine zX ?_ | refine zo rfl ?_ | refine zs ?_ | intro _)); all_goals (try (conv => whnf))
  all_goals rfl
abbrev LL := List (Bool × List Ld)
def eC (p : Bool × List Ld) : PV := sL p.1 p.2
def sLL (nl : Bool) (ls : LL) : PV := .sl 1 nl (ls.map eC)
structure LLok (ls : LL) : Prop where
 nils : ∀ p, p ∈ ls → p.1 = true → p.2 = []
 len : ∀ p, p ∈ ls → p.2.length ≤ 1000
 few : ls.length ≤ 1000
theorem index45 (nl : Bool) (l : LL) (f : FuncId) (caps : List PV) (p : Bool × List Ld → Bool) (hp : ∀ x, x ∈ l → PureCall Tryz.prog f ([eC x] ++ caps) (.p (.bool (p x)))) :
  PureCall Tryz.prog 90 [sLL nl l, .fn f caps] (.p (.int .i64 (idxFrom p l 0))) := by
 refine Fn.run k90 rfl ?_
 generalize Tryz.prog = P at *
 (repeat' ((conv => whnf); first | exact trivial | with_reducible refine zX ?_ | refine ⟨rfl, ?_⟩ | refine ⟨_, rfl, ?_⟩ | with_reducible refine zP ?_ | with_reducible refine zL ?_ | refine ⟨fun _ => ?_, fun _ => ?_⟩ | refine zn ?_ | refine zb rfl ?_ | refine zX ?_ | refine zo rfl ?_ | refine zs ?_ | intro _)); all_goals (try (conv => whnf))
 rename_i hlen
 refine loop_inv (fun n s => ∃ i : Nat, n + i = l.length ∧ idxFrom p (l.drop i) i = idxFrom p l 0 ∧ s = ⟨mkT 19 [(0, .p (sLL nl l)), (1, .p (.fn f caps)), (7, .p (.int .i64 (l.map eC).length)), (8, .p (.int .i64 i))], []⟩) l.length ?_ ?_
 ·conv => whnf
  exact ⟨0, rfl, rfl, rfl⟩
 ·rintro n t b N ⟨i, hi, hI, e⟩ hN
  cases e
  by_cases hlt : i < l.length
  ·have hrow : (l.map eC)[i]? = some (eC l[i]) := by simp [hlt]
   have hb := lt_t (n := (l.map eC).length) (by simpa using hlt)
   have hc := hp l[i] (List.getElem_mem _)
   rw [List.drop_eq_getElem_cons hlt] at hI
   simp only [idxFrom] at hI
   (repeat' ((conv => whnf); first | exact trivial | with_reducible refine zX ?_ | refine ⟨rfl, ?_⟩ | refine ⟨_, rfl, ?_⟩ | with_reducible refine zP ?_ | with_reducible refine zL ?_ | refine ⟨fun _ => ?_, fun _ => ?_⟩ | refine zn ?_ | refine zb rfl ?_ | refine zX ?_ | refine zo rfl ?_ | refine zs ?_ | intro _)); all_goals (try (conv => whnf))
   ·rename_i e; rw [if_pos e] at hI; exact int_end hI
   ·rename_i e
    rw [next1 (by simpa using hlt) hlen]
    rw [if_neg (by rw [e]; decide)] at hI
    exact hN (n - 1) _ (by omega) ⟨i + 1, by omega, hI, rfl⟩
  ·have hb := lt_f (n := (l.map eC).length) (by simpa using hlt)
   (repeat' ((conv => whnf); first | exact trivial | with_reducible refine zX ?_ | refine ⟨rfl, ?_⟩ | refine ⟨_, rfl, ?_⟩ | with_reducible refine zP ?_ | with_reducible refine zL ?_ | refine ⟨fun _ => ?_, fun _ => ?_⟩ | refine zn ?_ | refine zb rfl ?_ | refine zX ?_ | refine zo rfl ?_ | refine zs ?_ | intro _)); all_goals (try (conv => whnf))
   rw [List.drop_of_length_le (by omega)] at hI
   exact int_end hI
theorem idx_core (x : Ld) : ∀ (ls : LL) (k : Int), idxFrom (fun p => fitsB (p.2 ++ [x])) ls k = coreFrom x (ls.map (·.2)) k := by
 intro ls
 induction ls with
 | nil => intro k; rfl
 | cons p ls ih => intro k; simp only [idxFrom, List.map_cons, coreFrom]; rw [ih]
theorem core25 (nl : Bool) (ls : LL) (h : LLok ls) (x : Ld) : PureCall Tryz.prog 45 [sLL nl ls, eL x] (.p (.int .i64 (coreV (ls.map (·.2)) x))) := by
 have hc := index45 nl ls 91 [.ptr [.int .i64 x.c, .int .i64 x.d, .int .i64 x.t] 0] (fun p => fitsB (p.2 ++ [x])) fun p hp => core46 p.1 p.2 (h.nils p hp) (h.len p hp) x
 rw [idx_core] at hc
 refine Fn.run k45 rfl ?_
 generalize Tryz.prog = P at *
 (repeat' ((conv => whnf); first | exact trivial | with_reducible refine zX ?_ | refine ⟨rfl, ?_⟩ | refine ⟨_, rfl, ?_⟩ | with_reducible refine zP ?_ | with_reducible refine zL ?_ | refine ⟨fun _ => ?_, fun _ => ?_⟩ | refine zn ?_ | refine zb rfl ?_ | refine zX ?_ | refine zo rfl ?_ | refine zs ?_ | intro _)); all_goals (try (conv => whnf))
 all_goals rfl
structure Sec where
 res : Int
 at_ : Int
 len : Int
deriving DecidableEq
structure Tk where
 C : Int
 D : Int
 T : Int
 nl : Bool
 secs : List Sec
def eS (x : Sec) : PV := .agg [.int .i64 x.res, .int .i64 x.at_, .int .i64 x.len]
def eT (t : Tk) : PV := .agg [.int .i64 t.C, .int .i64 t.D, .int .i64 t.T, .sl 3 t.nl (t.secs.map eS)]
def eP (p : Pc) : PV := .agg [.int .i64 p.core, .int .i64 p.off, .int .i64 p.len, .int .i64 p.c]
def ePl (kind : Int) (nl : Bool) (ps : List Pc) : PV := .agg [.int .i64 kind, .sl 4 nl (ps.map eP)]
def planR (kind : Int) (ps : List Pc) : DV := if ps = [] then .tup [.p (ePl 0 true []), .p (.bool false)] else .tup [.p (ePl kind false ps), .p (.bool true)]
def wholeP (k D C : Int) : List Pc := if k < 0 then [] else [⟨k, 0, D, C⟩]
theorem place22 (nl : Bool) (ls : LL) (h : LLok ls) (t : Tk) (w : Int) (h1 : -1000000 ≤ t.C + w) (h2 : t.C + w ≤ 1000000) :
  PureCall Tryz.prog 21 [sLL nl ls, eT t, .int .i64 w] (planR 1 (wholeP (coreV (ls.map (·.2)) ⟨t.C + w, t.D, t.T⟩) t.D t.C)) := by
 have hw : IntKind.wrap .i64 (t.C + w) = t.C + w := wrapE (by omega) (by omega)
 have hc := core25 nl ls h ⟨t.C + w, t.D, t.T⟩
 simp only [eL] at hc
 rw [← hw] at hc
 rw [← hw]
 generalize coreV (ls.map (·.2)) ⟨IntKind.wrap .i64 (t.C + w), t.D, t.T⟩ = k at *
 by_cases hk : k < 0
 ·have hb : decide (k < 0) = true := decide_eq_true hk
  have e : planR 1 (wholeP k t.D t.C) = .tup [.p (ePl 0 true []), .p (.bool false)] := by unfold planR wholeP; rw [if_pos hk, if_pos rfl]
  rw [e]
  refine Fn.run k21 rfl ?_
  generalize Tryz.prog = P at *
  (repeat' ((conv => whnf); first | exact trivial | with_reducible refine zX ?_ | refine ⟨rfl, ?_⟩ | refine ⟨_, rfl, ?_⟩ | with_reducible refine zP ?_ | with_reducible refine zL ?_ | refine ⟨fun _ => ?_, fun _ => ?_⟩ | refine zn ?_ | refine zb rfl ?_ | refine zX ?_ | refine zo rfl ?_ | refine zs ?_ | intro _)); all_goals (try (conv => whnf))
  all_goals rfl
 ·have hb : decide (k < 0) = false := decide_eq_false hk
  have e : planR 1 (wholeP k t.D t.C) = .tup [.p (ePl 1 false [⟨k, 0, t.D, t.C⟩]), .p (.bool true)] := by unfold planR wholeP; rw [if_neg hk, if_neg (by simp)]
  rw [e]
  refine Fn.run k21 rfl ?_
  generalize Tryz.prog = P at *
  (repeat' ((conv => whnf); first | exact trivial | with_reducible refine zX ?_ | refine ⟨rfl, ?_⟩ | refine ⟨_, rfl, ?_⟩ | with_reducible refine zP ?_ | with_reducible refine zL ?_ | refine ⟨fun _ => ?_, fun _ => ?_⟩ | refine zn ?_ | refine zb rfl ?_ | refine zX ?_ | refine zo rfl ?_ | refine zs ?_ | intro _)); all_goals (try (conv => whnf))
  all_goals rfl
theorem may91 (nl : Bool) (l : List Ld) (d t : Int) : PureCall Tryz.prog 130 [sL nl l, .int .i64 d, .int .i64 t] (.p (.bool (mayM l d t))) := by
 have hf := fits47 nl l
 refine Fn.run k130 rfl ?_
 generalize Tryz.prog = P at *
 (repeat' ((conv => whnf); first | exact trivial | with_reducible refine zX ?_ | refine ⟨rfl, ?_⟩ | refine ⟨_, rfl, ?_⟩ | with_reducible refine zP ?_ | with_reducible refine zL ?_ | refine ⟨fun _ => ?_, fun _ => ?_⟩ | refine zn ?_ | refine zb rfl ?_ | refine zX ?_ | refine zo rfl ?_ | refine zs ?_ | intro _)); all_goals (try (conv => whnf))
 all_goals (refine bool_end (Bool.eq_iff_iff.2 ?_); simp only [mayM, List.length_map, Bool.and_eq_true, Bool.or_eq_true, Bool.and_eq_false_iff, Bool.or_eq_false_iff, decide_eq_true_eq, decide_eq_false_iff_not, Bool.not_eq_true', Bool.not_eq_false', Bool.false_eq_true, Bool.true_eq_false, Bool.not_true, Bool.not_false, ge_iff_le, gt_iff_lt] at *; first | done | omega | (simp only [false_iff]; omega) | (simp only [true_iff]; omega) | grind)
theorem fit72 (nl : Bool) (l : List Ld) (hnl : nl = true → l = []) (hll : l.length ≤ 1000) (d t m : Int) (hm0 : -1000000 ≤ m) : PureCall Tryz.prog 98 [sL nl l, .int .i64 d, .int .i64 t, .int .i64 m] (.p (.int .i64 (mostV l d t m))) := by
 have hmay := may91 nl l d t
 unfold mostV
 cases hM : mayM l d t with
 | false =>
  rw [hM] at hmay
  refine Fn.run k98 rfl ?_
  generalize Tryz.prog = P at *
  (repeat' ((conv => whnf); first | exact trivial | with_reducible refine zX ?_ | refine ⟨rfl, ?_⟩ | refine ⟨_, rfl, ?_⟩ | with_reducible refine zP ?_ | with_reducible refine zL ?_ | refine ⟨fun _ => ?_, fun _ => ?_⟩ | refine zn ?_ | refine zb rfl ?_ | refine zX ?_ | refine zo rfl ?_ | refine zs ?_ | intro _)); all_goals (try (conv => whnf))
  all_goals exact int_end (by simp)
 | true =>
  rw [hM] at hmay
  have hw := fun c => with92 nl l hnl hll ⟨c, d, t⟩
  simp only [eL] at hw
  have hd : 1 ≤ d ∧ d ≤ 200 := by
   simp only [mayM, Bool.and_eq_true, decide_eq_true_eq] at hM
   omega
  obtain ⟨s1, s2, s3, s4⟩ := mostDown_spec l d t (min m d).toNat
  rw [if_pos rfl]
  generalize hV : mostDown l d t (min m d).toNat = V at *
  have hmn : (if d < m then d else m) = min m d := by split <;> omega
  refine Fn.run k98 rfl ?_
  generalize Tryz.prog = P at *
  (repeat' ((conv => whnf); first | exact trivial | with_reducible refine zX ?_ | refine ⟨rfl, ?_⟩ | refine ⟨_, rfl, ?_⟩ | with_reducible refine zP ?_ | with_reducible refine zL ?_ | refine ⟨fun _ => ?_, fun _ => ?_⟩ | refine zn ?_ | refine zb rfl ?_ | refine zX ?_ | refine zo rfl ?_ | refine zs ?_ | intro _)); all_goals (try (conv => whnf))
  refine loop_inv (fun n s => ∃ lo hi : Int, n = (hi - lo).toNat ∧ 0 ≤ lo ∧ hi ≤ min m d ∧ (lo = 0 ∨ fitW l lo d t = true) ∧ lo ≤ V ∧ (V ≤ hi ∨ (V = 0 ∧ lo = 0)) ∧
   s = ⟨mkT 40 [(0, .p (sL nl l)), (1, .p (.int .i64 d)), (2, .p (.int .i64 t)), (9, .p (.int .i64 lo)), (10, .p (.int .i64 hi))], []⟩) (min m d).toNat ?_ ?_
  ·conv => whnf
   refine ⟨0, min m d, by omega, Int.le_refl _, Int.le_refl _, .inl rfl, s1, by omega, ?_⟩
   rw [← hmn]; rfl
  ·rintro n st b N ⟨lo, hi, hn, h0, h1, h2, h3, h4, e⟩ hN
   cases e
   by_cases hlt : lo < hi
   ·have hb : decide (lo < hi) = true := decide_eq_true hlt
    have e1 : IntKind.wrap .i64 (hi - lo) = hi - lo := wrapE (by omega) (by omega)
    have e2 : IntKind.wrap .i64 (hi - lo + 1) = hi - lo + 1 := wrapE (by omega) (by omega)
    have hq : 1 ≤ (hi - lo + 1) / 2 ∧ (hi - lo + 1) / 2 ≤ hi - lo := by omega
    have e3 : IntKind.wrap .i64 ((hi - lo + 1).tdiv 2) = (hi - lo + 1) / 2 := by
     rw [Int.tdiv_eq_ediv_of_nonneg (by omega)]; exact wrapE (by omega) (by omega)
    have e4 : IntKind.wrap .i64 (lo + (hi - lo + 1) / 2) = lo + (hi - lo + 1) / 2 := wrapE (by omega) (by omega)
    have hc := hw (IntKind.wrap .i64 (lo + IntKind.wrap .i64 ((IntKind.wrap .i64 (IntKind.wrap .i64 (hi - lo) + 1)).tdiv 2)))
    have hg : IntKind.wrap .i64 (lo + IntKind.wrap .i64 ((IntKind.wrap .i64 (IntKind.wrap .i64 (hi - lo) + 1)).tdiv 2)) = lo + (hi - lo + 1) / 2 := by rw [e1, e2, e3, e4]
    (repeat' ((conv => whnf); first | exact trivial | with_reducible refine zX ?_ | refine ⟨rfl, ?_⟩ | refine ⟨_, rfl, ?_⟩ | with_reducible refine zP ?_ | with_reducible refine zL ?_ | refine ⟨fun _ => ?_, fun _ => ?_⟩ | refine zn ?_ | refine zb rfl ?_ | refine zX ?_ | refine zo rfl ?_ | refine zs ?_ | intro _)); all_goals (try (conv => whnf))
    ·rename_i e
     rw [hg] at e ⊢
     have hcV : lo + (hi - lo + 1) / 2 ≤ V := by
      refine Int.not_lt.1 fun hlt2 => ?_
      have := s4 _ hlt2 (by omega)
      unfold fitW at this
      rw [e] at this; cases this
     exact hN _ _ (by omega) ⟨lo + (hi - lo + 1) / 2, hi, rfl, by omega, h1, .inr e, hcV, by omega, rfl⟩
    ·rename_i e
     rw [hg] at e ⊢
     rw [wrapE (n := lo + (hi - lo + 1) / 2 - 1) (by omega) (by omega)]
     have hcV : V < lo + (hi - lo + 1) / 2 := by
      refine Int.not_le.1 fun hle => ?_
      have := fitW_less (s3 (by omega)) (c' := lo + (hi - lo + 1) / 2) (by omega) hle
      unfold fitW at this
      rw [e] at this; cases this
     exact hN _ _ (by omega) ⟨lo, lo + (hi - lo + 1) / 2 - 1, rfl, h0, by omega, h2, h3, by omega, rfl⟩
   ·have hb : decide (lo < hi) = false := decide_eq_false hlt
    (repeat' ((conv => whnf); first | exact trivial | with_reducible refine zX ?_ | refine ⟨rfl, ?_⟩ | refine ⟨_, rfl, ?_⟩ | with_reducible refine zP ?_ | with_reducible refine zL ?_ | refine ⟨fun _ => ?_, fun _ => ?_⟩ | refine zn ?_ | refine zb rfl ?_ | refine zX ?_ | refine zo rfl ?_ | refine zs ?_ | intro _)); all_goals (try (conv => whnf))
    exact int_end (by omega)
theorem eL_mk (c d t : Int) : eL ⟨c, d, t⟩ = .agg [.int .i64 c, .int .i64 d, .int .i64 t] := rfl
theorem tight79 (nl : Bool) (l : List Ld) (hnl : nl = true → l = []) (hll : l.length ≤ 1000) (t m : Int) : PureCall Tryz.prog 105 [sL nl l, .int .i64 t, .int .i64 m] (.p (.int .i64 (tightV l t m))) := by
 have hmay := may91 nl l t t
 unfold tightV
 cases hM : mayM l t t with
 | false =>
  rw [hM] at hmay
  refine Fn.run k105 rfl ?_
  generalize Tryz.prog = P at *
  (repeat' ((conv => whnf); first | exact trivial | with_reducible refine zX ?_ | refine ⟨rfl, ?_⟩ | refine ⟨_, rfl, ?_⟩ | with_reducible refine zP ?_ | with_reducible refine zL ?_ | refine ⟨fun _ => ?_, fun _ => ?_⟩ | refine zn ?_ | refine zb rfl ?_ | refine zX ?_ | refine zo rfl ?_ | refine zs ?_ | intro _)); all_goals (try (conv => whnf))
  all_goals exact int_end (by simp)
 | true =>
  have hM' := hM
  simp only [mayM, Bool.and_eq_true, decide_eq_true_eq] at hM'
  obtain ⟨p1, p2, p3, p4, p5⟩ := hM'
  rw [hM] at hmay
  have hw := fun c d => with92 nl l hnl hll ⟨c, d, t⟩
  simp only [eL_mk] at hw
  rw [if_pos rfl]
  have hmn : (if t < m then t else m) = min m t := by split <;> omega
  refine Fn.run k105 rfl ?_
  generalize Tryz.prog = P at *
  (repeat' ((conv => whnf); first | exact trivial | with_reducible refine zX ?_ | refine ⟨rfl, ?_⟩ | refine ⟨_, rfl, ?_⟩ | with_reducible refine zP ?_ | with_reducible refine zL ?_ | refine ⟨fun _ => ?_, fun _ => ?_⟩ | refine zn ?_ | refine zb rfl ?_ | refine zX ?_ | refine zo rfl ?_ | refine zs ?_ | intro _)); all_goals (try (conv => whnf))
  refine loop_inv (fun n s => ∃ c : Int, n = (min m t - c).toNat ∧ 0 ≤ c ∧ c ≤ 200 ∧ tightUp l t n c = tightUp l t (min m t).toNat 0 ∧
   s = ⟨mkT 31 [(0, .p (sL nl l)), (1, .p (.int .i64 t)), (2, .p (.int .i64 m)), (7, .p (.int .i64 c))], []⟩) (min m t).toNat ?_ ?_
  ·conv => whnf
   exact ⟨0, by omega, Int.le_refl _, by omega, rfl, rfl⟩
  ·rintro n st b N ⟨c, hn, h0, h1, h2, e⟩ hN
   cases e
   have hcw : IntKind.wrap .i64 (c + 1) = c + 1 := wrapE (by omega) (by omega)
   by_cases hlt : c < (if t < m then t else m)
   ·have hb : decide (c < (if t < m then t else m)) = true := decide_eq_true hlt
    rw [hmn] at hlt
    have hc := hw (IntKind.wrap .i64 (c + 1)) (IntKind.wrap .i64 (c + 1))
    have hn1 : n = (min m t - (c + 1)).toNat + 1 := by omega
    rw [hn1] at h2
    simp only [tightUp] at h2
    (repeat' ((conv => whnf); first | exact trivial | with_reducible refine zX ?_ | refine ⟨rfl, ?_⟩ | refine ⟨_, rfl, ?_⟩ | with_reducible refine zP ?_ | with_reducible refine zL ?_ | refine ⟨fun _ => ?_, fun _ => ?_⟩ | refine zn ?_ | refine zb rfl ?_ | refine zX ?_ | refine zo rfl ?_ | refine zs ?_ | intro _)); all_goals (try (conv => whnf))
    ·rename_i e
     rw [hcw] at e ⊢
     unfold fitW at h2
     rw [if_pos e] at h2
     exact hN _ _ (by omega) ⟨c + 1, rfl, by omega, by omega, h2, rfl⟩
    ·rename_i e
     rw [hcw] at e
     unfold fitW at h2
     rw [if_neg (by rw [e]; decide)] at h2
     exact int_end h2
   ·have hb : decide (c < (if t < m then t else m)) = false := decide_eq_false hlt
    rw [hmn] at hlt
    have hn0 : n = 0 := by omega
    subst hn0
    (repeat' ((conv => whnf); first | exact trivial | with_reducible refine zX ?_ | refine ⟨rfl, ?_⟩ | refine ⟨_, rfl, ?_⟩ | with_reducible refine zP ?_ | with_reducible refine zL ?_ | refine ⟨fun _ => ?_, fun _ => ?_⟩ | refine zn ?_ | refine zb rfl ?_ | refine zX ?_ | refine zo rfl ?_ | refine zs ?_ | intro _)); all_goals (try (conv => whnf))
    exact int_end h2
end Go.Proofs.YtoepoghmeajocaaGreatDoor.Vc
