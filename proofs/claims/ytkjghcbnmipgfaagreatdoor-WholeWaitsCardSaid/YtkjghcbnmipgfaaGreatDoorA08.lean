/- Part of a proof over a Go program: Ca. No condition. -/
import Derived.Test.YtkjghcbnmipgfaaGreatDoorA07
import Derived.Test.YtkjghcbnmipgfaaGreatDoorA06
set_option linter.unusedSectionVars false
set_option linter.unusedSimpArgs false
set_option linter.unusedVariables false
set_option maxRecDepth 100000
namespace Go.Proofs.YtkjghcbnmipgfaaGreatDoor.Vc
open Go.RowKit Ma
def eL (x : Ld) : PV := .agg [.int .i64 x.c, .int .i64 x.d, .int .i64 x.t]
def sL (nl : Bool) (l : List Ld) : PV := .sl 3 nl (l.map eL)
theorem bool_end {a b : Bool} (h : a = b) : resOf [TV.p (.bool a)] = DV.p (.bool b) := by subst h; rfl
theorem int_end {a b : Int} (h : a = b) : resOf [TV.p (.int .i64 a)] = DV.p (.int .i64 b) := by subst h; rfl
theorem lt_t {i n : Nat} (h : i < n) : decide ((i : Int) < (n : Int)) = true := by simp [h]
theorem lt_f {i n : Nat} (h : ¬ i < n) : decide ((i : Int) < (n : Int)) = false := by simp; omega
theorem next1 {i : Nat} {n : Nat} (h : i < n) (hn : n ≤ maxLen) : IntKind.wrap .i64 ((i : Int) + 1) = ((i + 1 : Nat) : Int) := by
  have : maxLen = 9223372036854775807 := by decide
  rw [wrapE (by omega) (by omega)]; omega
theorem in65 (n a b : Int) : PureCall Tryz.prog 65 [.int .i64 n, .int .i64 a, .int .i64 b] (.p (.bool (decide (a ≤ n) && decide (n ≤ b)))) := by
  refine Fn.run k65 rfl ?_
  generalize Tryz.prog = P
  (repeat' ((conv => whnf); first | exact trivial | with_reducible refine zX ?_ | refine ⟨rfl, ?_⟩ | refine ⟨_, rfl, ?_⟩ | with_reducible refine zP ?_ | with_reducible refine zL ?_ | refine ⟨fun _ => ?_, fun _ => ?_⟩ | refine zn ?_ | refine zb rfl ?_ | refine zX ?_ | refine zo rfl ?_ | refine zs ?_ | intro _)); all_goals (try (conv => whnf))
  all_goals (refine bool_end (Bool.eq_iff_iff.2 ?_); simp only [Bool.and_eq_true, Bool.or_eq_true, Bool.and_eq_false_iff, Bool.or_eq_false_iff, decide_eq_true_eq, decide_eq_false_iff_not, Bool.not_eq_true', Bool.not_eq_false', Bool.false_eq_true, Bool.true_eq_false, Bool.not_true, Bool.not_false, ge_iff_le, gt_iff_lt] at *; first | done | omega | (simp only [false_iff]; omega) | (simp only [true_iff]; omega) | grind)
theorem within68 (n a b : Int) : PureCall Tryz.prog 68 [.int .i64 n, .int .i64 a, .int .i64 b] (.p (.bool (decide (a ≤ n) && decide (n ≤ b)))) := by
  refine Fn.run k68 rfl ?_
  generalize Tryz.prog = P
  (repeat' ((conv => whnf); first | exact trivial | with_reducible refine zX ?_ | refine ⟨rfl, ?_⟩ | refine ⟨_, rfl, ?_⟩ | with_reducible refine zP ?_ | with_reducible refine zL ?_ | refine ⟨fun _ => ?_, fun _ => ?_⟩ | refine zn ?_ | refine zb rfl ?_ | refine zX ?_ | refine zo rfl ?_ | refine zs ?_ | intro _)); all_goals (try (conv => whnf))
  all_goals (refine bool_end (Bool.eq_iff_iff.2 ?_); simp only [Bool.and_eq_true, Bool.or_eq_true, Bool.and_eq_false_iff, Bool.or_eq_false_iff, decide_eq_true_eq, decide_eq_false_iff_not, Bool.not_eq_true', Bool.not_eq_false', Bool.false_eq_true, Bool.true_eq_false, Bool.not_true, Bool.not_false, ge_iff_le, gt_iff_lt] at *; first | done | omega | (simp only [false_iff]; omega) | (simp only [true_iff]; omega) | grind)
theorem load106 (x : Ld) : PureCall Tryz.prog 106 [eL x] (.p (.bool x.ok)) := by
  have h := within68 x.c 1 20000
  refine Fn.run k106 rfl ?_
  generalize Tryz.prog = P at *
  (repeat' ((conv => whnf); first | exact trivial | with_reducible refine zX ?_ | refine ⟨rfl, ?_⟩ | refine ⟨_, rfl, ?_⟩ | with_reducible refine zP ?_ | with_reducible refine zL ?_ | refine ⟨fun _ => ?_, fun _ => ?_⟩ | refine zn ?_ | refine zb rfl ?_ | refine zX ?_ | refine zo rfl ?_ | refine zs ?_ | intro _)); all_goals (try (conv => whnf))
  all_goals (refine bool_end (Bool.eq_iff_iff.2 ?_); simp only [Ld.ok_iff, Bool.and_eq_true, Bool.or_eq_true, Bool.and_eq_false_iff, Bool.or_eq_false_iff, decide_eq_true_eq, decide_eq_false_iff_not, Bool.not_eq_true', Bool.not_eq_false', Bool.false_eq_true, Bool.true_eq_false, Bool.not_true, Bool.not_false, ge_iff_le, gt_iff_lt] at *; first | done | omega | (simp only [false_iff]; omega) | (simp only [true_iff]; omega) | grind)
theorem load120 (x : Ld) : PureCall Tryz.prog 120 [eL x] (.p (.bool x.ok)) := by
  have h := in65 x.c 1 20000
  refine Fn.run k120 rfl ?_
  generalize Tryz.prog = P at *
  (repeat' ((conv => whnf); first | exact trivial | with_reducible refine zX ?_ | refine ⟨rfl, ?_⟩ | refine ⟨_, rfl, ?_⟩ | with_reducible refine zP ?_ | with_reducible refine zL ?_ | refine ⟨fun _ => ?_, fun _ => ?_⟩ | refine zn ?_ | refine zb rfl ?_ | refine zX ?_ | refine zo rfl ?_ | refine zs ?_ | intro _)); all_goals (try (conv => whnf))
  all_goals (refine bool_end (Bool.eq_iff_iff.2 ?_); simp only [Ld.ok_iff, Bool.and_eq_true, Bool.or_eq_true, Bool.and_eq_false_iff, Bool.or_eq_false_iff, decide_eq_true_eq, decide_eq_false_iff_not, Bool.not_eq_true', Bool.not_eq_false', Bool.false_eq_true, Bool.true_eq_false, Bool.not_true, Bool.not_false, ge_iff_le, gt_iff_lt] at *; first | done | omega | (simp only [false_iff]; omega) | (simp only [true_iff]; omega) | grind)
theorem bad105 (x : Ld) : PureCall Tryz.prog 105 [eL x] (.p (.bool !x.ok)) := by
  have h := load106 x
  refine Fn.run k105 rfl ?_
  generalize Tryz.prog = P at *
  (repeat' ((conv => whnf); first | exact trivial | with_reducible refine zX ?_ | refine ⟨rfl, ?_⟩ | refine ⟨_, rfl, ?_⟩ | with_reducible refine zP ?_ | with_reducible refine zL ?_ | refine ⟨fun _ => ?_, fun _ => ?_⟩ | refine zn ?_ | refine zb rfl ?_ | refine zX ?_ | refine zo rfl ?_ | refine zs ?_ | intro _)); all_goals (try (conv => whnf))
  all_goals exact bool_end rfl
theorem bad107 (x : Ld) : PureCall Tryz.prog 107 [eL x] (.p (.bool !x.ok)) := by
  have h := load106 x
  refine Fn.run k107 rfl ?_
  generalize Tryz.prog = P at *
  (repeat' ((conv => whnf); first | exact trivial | with_reducible refine zX ?_ | refine ⟨rfl, ?_⟩ | refine ⟨_, rfl, ?_⟩ | with_reducible refine zP ?_ | with_reducible refine zL ?_ | refine ⟨fun _ => ?_, fun _ => ?_⟩ | refine zn ?_ | refine zb rfl ?_ | refine zX ?_ | refine zo rfl ?_ | refine zs ?_ | intro _)); all_goals (try (conv => whnf))
  all_goals exact bool_end rfl
def idxFrom {α : Type} (p : α → Bool) : List α → Int → Int
  | [], _ => -1
  | x :: xs, k => if p x then k else idxFrom p xs (k + 1)
theorem idxFrom_any {α : Type} {p : α → Bool} {l : List α} : ∀ {k : Int}, 0 ≤ k → (decide (0 ≤ idxFrom p l k) = l.any p) := by
  induction l with
  | nil => intro k _; simp [idxFrom]
  | cons x xs ih =>
    intro k hk
    simp only [idxFrom, List.any_cons]
    split
    · rename_i h; simp [h, hk]
    · rename_i h; simp [h, ih (show 0 ≤ k + 1 by omega)]
theorem index126 (nl : Bool) (l : List Ld) (f : FuncId) (caps : List PV) (p : Ld → Bool) (hp : ∀ x, x ∈ l → PureCall Tryz.prog f ([eL x] ++ caps) (.p (.bool (p x)))) :
    PureCall Tryz.prog 126 [sL nl l, .fn f caps] (.p (.int .i64 (idxFrom p l 0))) := by
  refine Fn.run k126 rfl ?_
  generalize Tryz.prog = P at *
  (repeat' ((conv => whnf); first | exact trivial | with_reducible refine zX ?_ | refine ⟨rfl, ?_⟩ | refine ⟨_, rfl, ?_⟩ | with_reducible refine zP ?_ | with_reducible refine zL ?_ | refine ⟨fun _ => ?_, fun _ => ?_⟩ | refine zn ?_ | refine zb rfl ?_ | refine zX ?_ | refine zo rfl ?_ | refine zs ?_ | intro _)); all_goals (try (conv => whnf))
  rename_i hlen
  refine loop_inv (fun n s => ∃ i : Nat, n + i = l.length ∧ idxFrom p (l.drop i) i = idxFrom p l 0 ∧ s = ⟨mkT 19 [(0, .p (sL nl l)), (1, .p (.fn f caps)), (7, .p (.int .i64 (l.map eL).length)), (8, .p (.int .i64 i))], []⟩) l.length ?_ ?_
  · conv => whnf
    exact ⟨0, rfl, rfl, rfl⟩
  · rintro n t b N ⟨i, hi, hI, e⟩ hN
    cases e
    by_cases hlt : i < l.length
    · have hrow : (l.map eL)[i]? = some (eL l[i]) := by simp [hlt]
      have hb := lt_t (n := (l.map eL).length) (by simpa using hlt)
      have hc := hp l[i] (List.getElem_mem _)
      rw [List.drop_eq_getElem_cons hlt] at hI
      simp only [idxFrom] at hI
      (repeat' ((conv => whnf); first | exact trivial | with_reducible refine zX ?_ | refine ⟨rfl, ?_⟩ | refine ⟨_, rfl, ?_⟩ | with_reducible refine zP ?_ | with_reducible refine zL ?_ | refine ⟨fun _ => ?_, fun _ => ?_⟩ | refine zn ?_ | refine zb rfl ?_ | refine zX ?_ | refine zo rfl ?_ | refine zs ?_ | intro _)); all_goals (try (conv => whnf))
      · rename_i e; rw [if_pos e] at hI; exact int_end hI
      · rename_i e
        rw [next1 (by simpa using hlt) hlen]
        rw [if_neg (by rw [e]; decide)] at hI
        exact hN (n - 1) _ (by omega) ⟨i + 1, by omega, hI, rfl⟩
    · have hb := lt_f (n := (l.map eL).length) (by simpa using hlt)
      (repeat' ((conv => whnf); first | exact trivial | with_reducible refine zX ?_ | refine ⟨rfl, ?_⟩ | refine ⟨_, rfl, ?_⟩ | with_reducible refine zP ?_ | with_reducible refine zL ?_ | refine ⟨fun _ => ?_, fun _ => ?_⟩ | refine zn ?_ | refine zb rfl ?_ | refine zX ?_ | refine zo rfl ?_ | refine zs ?_ | intro _)); all_goals (try (conv => whnf))
      rw [List.drop_of_length_le (by omega)] at hI
      exact int_end hI
theorem any104 (nl : Bool) (l : List Ld) (f : FuncId) (caps : List PV) (p : Ld → Bool) (hp : ∀ x, x ∈ l → PureCall Tryz.prog f ([eL x] ++ caps) (.p (.bool (p x)))) :
    PureCall Tryz.prog 104 [sL nl l, .fn f caps] (.p (.bool (l.any p))) := by
  have h := index126 nl l f caps p hp
  refine Fn.run k104 rfl ?_
  generalize Tryz.prog = P at *
  (repeat' ((conv => whnf); first | exact trivial | with_reducible refine zX ?_ | refine ⟨rfl, ?_⟩ | refine ⟨_, rfl, ?_⟩ | with_reducible refine zP ?_ | with_reducible refine zL ?_ | refine ⟨fun _ => ?_, fun _ => ?_⟩ | refine zn ?_ | refine zb rfl ?_ | refine zX ?_ | refine zo rfl ?_ | refine zs ?_ | intro _)); all_goals (try (conv => whnf))
  all_goals exact bool_end (idxFrom_any (Int.le_refl 0))
theorem may87 (nl : Bool) (l : List Ld) : PureCall Tryz.prog 87 [sL nl l] (.p (.bool (mayL l))) := by
  have h := any104 nl l 105 [] (fun x => !x.ok) fun x _ => bad105 x
  refine Fn.run k87 rfl ?_
  generalize Tryz.prog = P at *
  (repeat' ((conv => whnf); first | exact trivial | with_reducible refine zX ?_ | refine ⟨rfl, ?_⟩ | refine ⟨_, rfl, ?_⟩ | with_reducible refine zP ?_ | with_reducible refine zL ?_ | refine ⟨fun _ => ?_, fun _ => ?_⟩ | refine zn ?_ | refine zb rfl ?_ | refine zX ?_ | refine zo rfl ?_ | refine zs ?_ | intro _)); all_goals (try (conv => whnf))
  · rename_i e
    refine bool_end ?_
    unfold mayL
    simp only [List.length_map, decide_eq_true_eq] at e
    have e' : l.length ≤ 24 := by omega
    simp [e', List.all_eq_not_any_not]
  · rename_i e
    refine bool_end ?_
    unfold mayL
    simp only [List.length_map, Bool.not_true, decide_eq_false_iff_not] at e
    have e' : ¬ l.length ≤ 24 := by omega
    simp [e']
theorem up_law {a b : Int} (ha : 1 ≤ a) (hb : 1 ≤ b) : (if 0 < a.tmod b then a.tdiv b + 1 else a.tdiv b) = (a - 1) / b + 1 := by
  rw [Int.tdiv_eq_ediv_of_nonneg (by omega), Int.tmod_eq_emod_of_nonneg (by omega)]
  have e1 := Int.mul_ediv_add_emod a b
  have h1 := Int.emod_nonneg a (show b ≠ 0 by omega)
  have h2 := Int.emod_lt_of_pos a (show 0 < b by omega)
  split
  · have : a - 1 = (a % b - 1) + b * (a / b) := by omega
    rw [this, Int.add_mul_ediv_left _ _ (by omega), Int.ediv_eq_zero_of_lt (a := a % b - 1) (b := b) (by omega) (by omega)]; omega
  · have : a - 1 = (b - 1) + b * (a / b - 1) := by rw [Int.mul_sub]; omega
    rw [this, Int.add_mul_ediv_left _ _ (by omega), Int.ediv_eq_zero_of_lt (a := b - 1) (b := b) (by omega) (by omega)]; omega
theorem up103 (a b : Int) (ha : 1 ≤ a) (ha2 : a ≤ 20000) (hb : 1 ≤ b) : PureCall Tryz.prog 103 [.int .i64 a, .int .i64 b] (.p (.int .i64 ((a - 1) / b + 1))) := by
  have hl := up_law ha hb
  have hq : 0 ≤ a.tdiv b ∧ a.tdiv b ≤ a := by
    rw [Int.tdiv_eq_ediv_of_nonneg (by omega)]
    exact ⟨Int.ediv_nonneg (by omega) (by omega), Int.ediv_le_self _ (by omega)⟩
  have hb0 : decide (b ≤ 0) = false := decide_eq_false (by omega)
  have hbn : b ≠ 0 := by omega
  refine Fn.run k103 rfl ?_
  generalize Tryz.prog = P at *
  (repeat' ((conv => whnf); first | exact trivial | with_reducible refine zX ?_ | refine ⟨rfl, ?_⟩ | refine ⟨_, rfl, ?_⟩ | with_reducible refine zP ?_ | with_reducible refine zL ?_ | refine ⟨fun _ => ?_, fun _ => ?_⟩ | refine zn ?_ | refine zb rfl ?_ | refine zX ?_ | refine zo rfl ?_ | refine zs ?_ | intro _)); all_goals (try (conv => whnf))
  · rename_i e
    refine int_end ?_
    rw [wrapE (n := a.tdiv b) (by omega) (by omega), wrapE (by omega) (by omega), ← hl, if_pos (of_decide_eq_true e)]
  · rename_i e
    refine int_end ?_
    rw [wrapE (n := a.tdiv b) (by omega) (by omega), ← hl, if_neg (of_decide_eq_false e)]
theorem asked88 (nl : Bool) (l : List Ld) (t : Int) (hl : mayL l = true) (h1 : 1 ≤ t) (h2 : t ≤ 20000) : PureCall Tryz.prog 88 [sL nl l, .int .i64 t] (.p (.int .i64 (asked l t))) := by
  have hm := may87 nl l
  rw [hl] at hm
  have hup := fun b hb => up103 t b h1 h2 hb
  have ht0 : decide (t < 0) = false := decide_eq_false (by omega)
  have ht1 : decide (t > 20000) = false := decide_eq_false (by omega)
  have hl' := mayL_iff.1 hl
  refine Fn.run k88 rfl ?_
  generalize Tryz.prog = P at *
  (repeat' ((conv => whnf); first | exact trivial | with_reducible refine zX ?_ | refine ⟨rfl, ?_⟩ | refine ⟨_, rfl, ?_⟩ | with_reducible refine zP ?_ | with_reducible refine zL ?_ | refine ⟨fun _ => ?_, fun _ => ?_⟩ | refine zn ?_ | refine zb rfl ?_ | refine zX ?_ | refine zo rfl ?_ | refine zs ?_ | intro _)); all_goals (try (conv => whnf))
  rename_i hlen
  refine loop_inv (fun n s => ∃ (i : Nat) (acc : Int), n + i = l.length ∧ acc + sumL (ask1 t) (l.drop i) = asked l t ∧ 0 ≤ acc ∧ acc ≤ i * 400000000 ∧
    s = ⟨mkT 36 [(1, .p (.int .i64 t)), (5, .p (.int .i64 acc)), (19, .p (sL nl l)), (20, .p (.int .i64 (l.map eL).length)), (21, .p (.int .i64 i))], [none]⟩) l.length ?_ ?_
  · conv => whnf
    exact ⟨0, 0, rfl, by simp [asked], Int.le_refl _, by omega, rfl⟩
  · rintro n st b N ⟨i, acc, hi, hI, ha1, ha2, e⟩ hN
    cases e
    by_cases hlt : i < l.length
    · have hrow : (l.map eL)[i]? = some (eL l[i]) := by simp [hlt]
      have hb := lt_t (n := (l.map eL).length) (by simpa using hlt)
      have hok := hl'.2 l[i] (List.getElem_mem _)
      have hc := hup l[i].t (by have := Ld.ok_iff.1 hok; omega)
      have hbd := ask1_bound hok h1 h2
      rw [List.drop_eq_getElem_cons hlt] at hI
      simp only [sumL] at hI
      (repeat' ((conv => whnf); first | exact trivial | with_reducible refine zX ?_ | refine ⟨rfl, ?_⟩ | refine ⟨_, rfl, ?_⟩ | with_reducible refine zP ?_ | with_reducible refine zL ?_ | refine ⟨fun _ => ?_, fun _ => ?_⟩ | refine zn ?_ | refine zb rfl ?_ | refine zX ?_ | refine zo rfl ?_ | refine zs ?_ | intro _)); all_goals (try (conv => whnf))
      rw [next1 (by simpa using hlt) hlen]
      have e1 : IntKind.wrap .i64 (l[i].c * ((t - 1) / l[i].t + 1)) = ask1 t l[i] := wrapE (by unfold ask1 at hbd; omega) (by unfold ask1 at hbd; omega)
      rw [e1, wrapE (by omega) (by omega)]
      exact hN (n - 1) _ (by omega) ⟨i + 1, acc + ask1 t l[i], by omega, by omega, by omega, by omega, rfl⟩
    · have hb := lt_f (n := (l.map eL).length) (by simpa using hlt)
      (repeat' ((conv => whnf); first | exact trivial | with_reducible refine zX ?_ | refine ⟨rfl, ?_⟩ | refine ⟨_, rfl, ?_⟩ | with_reducible refine zP ?_ | with_reducible refine zL ?_ | refine ⟨fun _ => ?_, fun _ => ?_⟩ | refine zn ?_ | refine zb rfl ?_ | refine zX ?_ | refine zo rfl ?_ | refine zs ?_ | intro _)); all_goals (try (conv => whnf))
      rw [List.drop_of_length_le (by omega)] at hI
      simp only [sumL] at hI
      exact int_end (by omega)
theorem time66 (nl : Bool) (l : List Ld) : PureCall Tryz.prog 66 [sL nl l] (.tup [.p (.int .i64 (timeV l).1), .p (.bool (timeV l).2)]) := by
  have hm := may87 nl l
  cases hl : mayL l with
  | false =>
    rw [hl] at hm
    rw [timeV_bad hl]
    refine Fn.run k66 rfl ?_
    generalize Tryz.prog = P at *
    (repeat' ((conv => whnf); first | exact trivial | with_reducible refine zX ?_ | refine ⟨rfl, ?_⟩ | refine ⟨_, rfl, ?_⟩ | with_reducible refine zP ?_ | with_reducible refine zL ?_ | refine ⟨fun _ => ?_, fun _ => ?_⟩ | refine zn ?_ | refine zb rfl ?_ | refine zX ?_ | refine zo rfl ?_ | refine zs ?_ | intro _)); all_goals (try (conv => whnf))
    rfl
  | true =>
    rw [hl] at hm
    by_cases hn : l = []
    · subst hn
      rw [timeV_nil]
      have hz : ((([] : List Ld).map eL).length : Int) == 0 := rfl
      refine Fn.run k66 rfl ?_
      generalize Tryz.prog = P at *
      (repeat' ((conv => whnf); first | exact trivial | with_reducible refine zX ?_ | refine ⟨rfl, ?_⟩ | refine ⟨_, rfl, ?_⟩ | with_reducible refine zP ?_ | with_reducible refine zL ?_ | refine ⟨fun _ => ?_, fun _ => ?_⟩ | refine zn ?_ | refine zb rfl ?_ | refine zX ?_ | refine zo rfl ?_ | refine zs ?_ | intro _)); all_goals (try (conv => whnf))
      rfl
    · have hask := fun t h1 h2 => asked88 nl l t hl h1 h2
      have hz : (((l.map eL).length : Int) == 0) = false := by
        cases l with
        | nil => exact absurd rfl hn
        | cons x xs => simp; omega
      refine Fn.run k66 rfl ?_
      generalize Tryz.prog = P at *
      (repeat' ((conv => whnf); first | exact trivial | with_reducible refine zX ?_ | refine ⟨rfl, ?_⟩ | refine ⟨_, rfl, ?_⟩ | with_reducible refine zP ?_ | with_reducible refine zL ?_ | refine ⟨fun _ => ?_, fun _ => ?_⟩ | refine zn ?_ | refine zb rfl ?_ | refine zX ?_ | refine zo rfl ?_ | refine zs ?_ | intro _)); all_goals (try (conv => whnf))
      refine loop_inv (fun n s => ∃ t : Int, n = (20001 - t).toNat ∧ Seek l t ∧ s = ⟨mkT 22 [(0, .p (sL nl l)), (4, .p (.int .i64 t))], []⟩) 20000 ?_ ?_
      · conv => whnf
        exact ⟨1, rfl, Seek.start hl hn, rfl⟩
      · rintro n st b N ⟨t, hnn, hs, e⟩ hN
        cases e
        by_cases ht : t ≤ 20000
        · have hc := hask t hs.lo ht
          have hb : decide (t ≤ 20000) = true := decide_eq_true ht
          (repeat' ((conv => whnf); first | exact trivial | with_reducible refine zX ?_ | refine ⟨rfl, ?_⟩ | refine ⟨_, rfl, ?_⟩ | with_reducible refine zP ?_ | with_reducible refine zL ?_ | refine ⟨fun _ => ?_, fun _ => ?_⟩ | refine zn ?_ | refine zb rfl ?_ | refine zX ?_ | refine zo rfl ?_ | refine zs ?_ | intro _)); all_goals (try (conv => whnf))
          · rename_i e
            rw [hs.found ht (by simpa using e)]; rfl
          · rename_i e
            have hx := hs.next ht (by simpa using e)
            exact hN _ _ (by omega) ⟨asked l t, rfl, hx.1, rfl⟩
        · have hb : decide (t ≤ 20000) = false := decide_eq_false ht
          (repeat' ((conv => whnf); first | exact trivial | with_reducible refine zX ?_ | refine ⟨rfl, ?_⟩ | refine ⟨_, rfl, ?_⟩ | with_reducible refine zP ?_ | with_reducible refine zL ?_ | refine ⟨fun _ => ?_, fun _ => ?_⟩ | refine zn ?_ | refine zb rfl ?_ | refine zX ?_ | refine zo rfl ?_ | refine zs ?_ | intro _)); all_goals (try (conv => whnf))
          rw [hs.never ht]; rfl
theorem down_law {a b : Int} (hb : 1 ≤ b) : (if a.tmod b < 0 then a.tdiv b - 1 else a.tdiv b) = a / b := by
  have e1 := Int.mul_tdiv_add_tmod a b
  have h2 := Int.tmod_lt_of_pos a (show 0 < b by omega)
  have h3 : -b < a.tmod b := by
    have := Int.lt_tmod_of_pos a (show 0 < b by omega)
    omega
  split
  · have : a = (a.tmod b + b) + b * (a.tdiv b - 1) := by rw [Int.mul_sub]; omega
    conv => rhs; rw [this]
    rw [Int.add_mul_ediv_left _ _ (by omega), Int.ediv_eq_zero_of_lt (a := a.tmod b + b) (b := b) (by omega) (by omega)]; omega
  · have : a = a.tmod b + b * a.tdiv b := by omega
    conv => rhs; rw [this]
    rw [Int.add_mul_ediv_left _ _ (by omega), Int.ediv_eq_zero_of_lt (a := a.tmod b) (b := b) (by omega) (by omega)]; omega
theorem tdiv_small {a b : Int} (hb : 1 ≤ b) (h1 : -1000000 ≤ a) (h2 : a ≤ 1000000) : -1000000 ≤ a.tdiv b ∧ a.tdiv b ≤ 1000000 := by
  have := Int.natAbs_tdiv_le_natAbs a b
  omega
theorem down58 (a b : Int) (h1 : -1000000 ≤ a) (h2 : a ≤ 1000000) (hb : 1 ≤ b) : PureCall Tryz.prog 58 [.int .i64 a, .int .i64 b] (.p (.int .i64 (a / b))) := by
  have hl := down_law (a := a) hb
  have hq := tdiv_small hb h1 h2
  have hb0 : decide (b ≤ 0) = false := decide_eq_false (by omega)
  have hbn : b ≠ 0 := by omega
  refine Fn.run k58 rfl ?_
  generalize Tryz.prog = P at *
  (repeat' ((conv => whnf); first | exact trivial | with_reducible refine zX ?_ | refine ⟨rfl, ?_⟩ | refine ⟨_, rfl, ?_⟩ | with_reducible refine zP ?_ | with_reducible refine zL ?_ | refine ⟨fun _ => ?_, fun _ => ?_⟩ | refine zn ?_ | refine zb rfl ?_ | refine zX ?_ | refine zo rfl ?_ | refine zs ?_ | intro _)); all_goals (try (conv => whnf))
  · rename_i e
    refine int_end ?_
    rw [wrapE (n := a.tdiv b) (by omega) (by omega), wrapE (by omega) (by omega), ← hl, if_pos (of_decide_eq_true e)]
  · rename_i e
    refine int_end ?_
    rw [wrapE (n := a.tdiv b) (by omega) (by omega), ← hl, if_neg (of_decide_eq_false e)]
theorem due108 (x : Ld) (hx : x.ok = true) (t : Int) (h1 : 0 ≤ t) (h2 : t ≤ 20000) : PureCall Tryz.prog 108 [eL x, .int .i64 t] (.p (.int .i64 (due1 t x))) := by
  have hok := Ld.ok_iff.1 hx
  have hbd := due1_bound hx h2
  by_cases hd : x.d > t
  · have hb : decide (x.d > t) = true := decide_eq_true hd
    refine Fn.run k108 rfl ?_
    generalize Tryz.prog = P at *
    (repeat' ((conv => whnf); first | exact trivial | with_reducible refine zX ?_ | refine ⟨rfl, ?_⟩ | refine ⟨_, rfl, ?_⟩ | with_reducible refine zP ?_ | with_reducible refine zL ?_ | refine ⟨fun _ => ?_, fun _ => ?_⟩ | refine zn ?_ | refine zb rfl ?_ | refine zX ?_ | refine zo rfl ?_ | refine zs ?_ | intro _)); all_goals (try (conv => whnf))
    exact int_end (by unfold due1; rw [if_pos hd])
  · have hb : decide (x.d > t) = false := decide_eq_false hd
    have ht : IntKind.wrap .i64 (t - x.d) = t - x.d := wrapE (by omega) (by omega)
    have hdn := down58 (t - x.d) x.t (by omega) (by omega) (by omega)
    rw [← ht] at hdn
    have hq : 0 ≤ (t - x.d) / x.t ∧ (t - x.d) / x.t ≤ t - x.d := ⟨Int.ediv_nonneg (by omega) (by omega), Int.ediv_le_self _ (by omega)⟩
    unfold due1 at hbd ⊢
    rw [if_neg hd] at hbd ⊢
    refine Fn.run k108 rfl ?_
    generalize Tryz.prog = P at *
    (repeat' ((conv => whnf); first | exact trivial | with_reducible refine zX ?_ | refine ⟨rfl, ?_⟩ | refine ⟨_, rfl, ?_⟩ | with_reducible refine zP ?_ | with_reducible refine zL ?_ | refine ⟨fun _ => ?_, fun _ => ?_⟩ | refine zn ?_ | refine zb rfl ?_ | refine zX ?_ | refine zo rfl ?_ | refine zs ?_ | intro _)); all_goals (try (conv => whnf))
    refine int_end ?_
    rw [ht, wrapE (n := (t - x.d) / x.t + 1) (by omega) (by omega), wrapE (by omega) (by omega)]
theorem bound89 (nl : Bool) (l : List Ld) (t : Int) (hl : mayL l = true) (h1 : 0 ≤ t) (h2 : t ≤ 20000) : PureCall Tryz.prog 89 [sL nl l, .int .i64 t] (.p (.int .i64 (dueL l t))) := by
  have hm := any104 nl l 107 [] (fun x => !x.ok) fun x _ => bad107 x
  have hl' := mayL_iff.1 hl
  have ha : (l.any fun x => !x.ok) = false := by simpa using hl'.2
  rw [ha] at hm
  have hb24 : decide (((l.map eL).length : Int) > 24) = false := decide_eq_false (by simp; omega)
  have ht0 : decide (t < 0) = false := decide_eq_false (by omega)
  have ht1 : decide (t > 20000) = false := decide_eq_false (by omega)
  have hdue := fun x (hx : x.ok = true) => due108 x hx t h1 h2
  refine Fn.run k89 rfl ?_
  generalize Tryz.prog = P at *
  (repeat' ((conv => whnf); first | exact trivial | with_reducible refine zX ?_ | refine ⟨rfl, ?_⟩ | refine ⟨_, rfl, ?_⟩ | with_reducible refine zP ?_ | with_reducible refine zL ?_ | refine ⟨fun _ => ?_, fun _ => ?_⟩ | refine zn ?_ | refine zb rfl ?_ | refine zX ?_ | refine zo rfl ?_ | refine zs ?_ | intro _)); all_goals (try (conv => whnf))
  rename_i hlen
  refine loop_inv (fun n s => ∃ (i : Nat) (acc : Int), n + i = l.length ∧ acc + sumL (due1 t) (l.drop i) = dueL l t ∧ 0 ≤ acc ∧ acc ≤ i * 400000000 ∧
    s = ⟨mkT 38 [(1, .p (.int .i64 t)), (6, .p (.int .i64 acc)), (25, .p (sL nl l)), (26, .p (.int .i64 (l.map eL).length)), (27, .p (.int .i64 i))], [none]⟩) l.length ?_ ?_
  · conv => whnf
    exact ⟨0, 0, rfl, by simp [dueL], Int.le_refl _, by omega, rfl⟩
  · rintro n st b N ⟨i, acc, hi, hI, ha1, ha2, e⟩ hN
    cases e
    by_cases hlt : i < l.length
    · have hrow : (l.map eL)[i]? = some (eL l[i]) := by simp [hlt]
      have hb := lt_t (n := (l.map eL).length) (by simpa using hlt)
      have hok := hl'.2 l[i] (List.getElem_mem _)
      have hc := hdue l[i] hok
      have hbd := due1_bound hok h2
      rw [List.drop_eq_getElem_cons hlt] at hI
      simp only [sumL] at hI
      (repeat' ((conv => whnf); first | exact trivial | with_reducible refine zX ?_ | refine ⟨rfl, ?_⟩ | refine ⟨_, rfl, ?_⟩ | with_reducible refine zP ?_ | with_reducible refine zL ?_ | refine ⟨fun _ => ?_, fun _ => ?_⟩ | refine zn ?_ | refine zb rfl ?_ | refine zX ?_ | refine zo rfl ?_ | refine zs ?_ | intro _)); all_goals (try (conv => whnf))
      rw [next1 (by simpa using hlt) hlen, wrapE (by omega) (by omega)]
      exact hN (n - 1) _ (by omega) ⟨i + 1, acc + due1 t l[i], by omega, by omega, by omega, by omega, rfl⟩
    · have hb := lt_f (n := (l.map eL).length) (by simpa using hlt)
      (repeat' ((conv => whnf); first | exact trivial | with_reducible refine zX ?_ | refine ⟨rfl, ?_⟩ | refine ⟨_, rfl, ?_⟩ | with_reducible refine zP ?_ | with_reducible refine zL ?_ | refine ⟨fun _ => ?_, fun _ => ?_⟩ | refine zn ?_ | refine zb rfl ?_ | refine zX ?_ | refine zo rfl ?_ | refine zs ?_ | intro _)); all_goals (try (conv => whnf))
      rw [List.drop_of_length_le (by omega)] at hI
      simp only [sumL] at hI
      exact int_end (by omega)
theorem first67 (nl : Bool) (l : List Ld) : PureCall Tryz.prog 67 [sL nl l] (.tup [.p (.int .i64 (if (timeV l).2 then firstV l (timeV l).1 else 0)), .p (.bool ((timeV l).2 && decide (firstV l (timeV l).1 ≠ 0)))]) := by
  have htm := time66 nl l
  have hrange := timeV_range l
  generalize hT : timeV l = T at *
  obtain ⟨e0, ok⟩ := T
  cases ok with
  | false =>
    refine Fn.run k67 rfl ?_
    generalize Tryz.prog = P at *
    (repeat' ((conv => whnf); first | exact trivial | with_reducible refine zX ?_ | refine ⟨rfl, ?_⟩ | refine ⟨_, rfl, ?_⟩ | with_reducible refine zP ?_ | with_reducible refine zL ?_ | refine ⟨fun _ => ?_, fun _ => ?_⟩ | refine zn ?_ | refine zb rfl ?_ | refine zX ?_ | refine zo rfl ?_ | refine zs ?_ | intro _)); all_goals (try (conv => whnf))
    rfl
  | true =>
    have hl := (timeV_ok (by rw [hT])).1
    have hl' := mayL_iff.1 hl
    have hbnd := fun t h1 h2 => bound89 nl l t hl h1 h2
    simp only at hrange
    refine Fn.run k67 rfl ?_
    generalize Tryz.prog = P at *
    (repeat' ((conv => whnf); first | exact trivial | with_reducible refine zX ?_ | refine ⟨rfl, ?_⟩ | refine ⟨_, rfl, ?_⟩ | with_reducible refine zP ?_ | with_reducible refine zL ?_ | refine ⟨fun _ => ?_, fun _ => ?_⟩ | refine zn ?_ | refine zb rfl ?_ | refine zX ?_ | refine zo rfl ?_ | refine zs ?_ | intro _)); all_goals (try (conv => whnf))
    rename_i hlen
    refine loop_inv (fun n s => ∃ (i : Nat) (f : Int), n + i = l.length ∧ Look l e0 f (fun x _ => x ∈ l.take i) ∧ f ≤ e0 + 1 ∧
      s = ⟨mkT 45 [(0, .p (sL nl l)), (4, .p (.int .i64 e0)), (6, .p (.int .i64 f)), (19, .p (sL nl l)), (20, .p (.int .i64 (l.map eL).length)), (21, .p (.int .i64 i))], [none]⟩) l.length ?_ ?_
    · conv => whnf
      refine ⟨0, e0 + 1, rfl, ⟨hl, .inl rfl, fun x _ k _ hx => by simp at hx⟩, Int.le_refl _, ?_⟩
      have hw : IntKind.wrap .i64 (e0 + 1) = e0 + 1 := wrapE (by omega) (by omega)
      rw [hw]; rfl
    · rintro n st b N ⟨i, f, hi, hI, hf, e⟩ hN
      cases e
      by_cases hlt : i < l.length
      · have hrow : (l.map eL)[i]? = some (eL l[i]) := by simp [hlt]
        have hb := lt_t (n := (l.map eL).length) (by simpa using hlt)
        have hok := Ld.ok_iff.1 (hl'.2 l[i] (List.getElem_mem _))
        (repeat' ((conv => whnf); first | exact trivial | with_reducible refine zX ?_ | refine ⟨rfl, ?_⟩ | refine ⟨_, rfl, ?_⟩ | with_reducible refine zP ?_ | with_reducible refine zL ?_ | refine ⟨fun _ => ?_, fun _ => ?_⟩ | refine zn ?_ | refine zb rfl ?_ | refine zX ?_ | refine zo rfl ?_ | refine zs ?_ | intro _)); all_goals (try (conv => whnf))
        refine loop_inv (fun n s => ∃ (k f t : Int), n = (e0 + 1 - t).toNat ∧ 0 ≤ k ∧ t = l[i].d + k * l[i].t ∧ Look l e0 f (fun x j => x ∈ l.take i ∨ (x = l[i] ∧ j < k)) ∧ f ≤ e0 + 1 ∧
          s = ⟨mkT 45 [(0, .p (sL nl l)), (4, .p (.int .i64 e0)), (6, .p (.int .i64 f)), (8, .addr 0 3 0 0), (9, .p (.int .i64 t)), (19, .p (sL nl l)), (20, .p (.int .i64 (l.map eL).length)), (21, .p (.int .i64 i))],
            [some ⟨true, 3, [[.p (.int .i64 l[i].c), .p (.int .i64 l[i].d), .p (.int .i64 l[i].t)]], false⟩]⟩) (e0 + 1 - l[i].d).toNat ?_ ?_
        · conv => whnf
          exact ⟨0, f, l[i].d, rfl, Int.le_refl _, by omega, ⟨hI.may, hI.fst, fun x hx k hk hs => hI.ok x hx k hk (hs.resolve_right fun h => by omega)⟩, hf, rfl⟩
        · rintro m st2 b2 N2 ⟨k, f2, t, hm, hk, htk, hI2, hf2, e2⟩ hN2
          cases e2
          by_cases hlt2 : t < f2
          · have hb2 : decide (t < f2) = true := decide_eq_true hlt2
            have hkt : 0 ≤ k * l[i].t := Int.mul_nonneg hk (by omega)
            have hc := hbnd t (by omega) (by omega)
            have hkn : (k + 1) * l[i].t = k * l[i].t + l[i].t := by rw [Int.add_mul, Int.one_mul]
            (repeat' ((conv => whnf); first | exact trivial | with_reducible refine zX ?_ | refine ⟨rfl, ?_⟩ | refine ⟨_, rfl, ?_⟩ | with_reducible refine zP ?_ | with_reducible refine zL ?_ | refine ⟨fun _ => ?_, fun _ => ?_⟩ | refine zn ?_ | refine zb rfl ?_ | refine zX ?_ | refine zo rfl ?_ | refine zs ?_ | intro _)); all_goals (try (conv => whnf))
            · rename_i ov
              have ov := of_decide_eq_true ov
              rw [wrapE (by omega) (by omega)]
              refine hN2 _ _ (by omega) ⟨k + 1, t, t + l[i].t, rfl, by omega, by omega, ⟨hI2.may, .inr ⟨by omega, by omega, ov⟩, fun x hx j hj hs hlt3 => ?_⟩, by omega, rfl⟩
              refine hI2.ok x hx j hj ?_ (by omega)
              rcases hs with hs | ⟨rfl, hs⟩
              · exact .inl hs
              · refine .inr ⟨rfl, ?_⟩
                by_cases e : j = k
                · subst e; omega
                · omega
            · rename_i ov
              have ov := of_decide_eq_false ov
              rw [wrapE (by omega) (by omega)]
              refine hN2 _ _ (by omega) ⟨k + 1, f2, t + l[i].t, rfl, by omega, by omega, ⟨hI2.may, hI2.fst, fun x hx j hj hs hlt3 => ?_⟩, hf2, rfl⟩
              rcases hs with hs | ⟨rfl, hs⟩
              · exact hI2.ok x hx j hj (.inl hs) hlt3
              · by_cases e : j = k
                · subst e; rw [← htk]; omega
                · exact hI2.ok _ hx j hj (.inr ⟨rfl, by omega⟩) hlt3
          · have hb2 : decide (t < f2) = false := decide_eq_false hlt2
            (repeat' ((conv => whnf); first | exact trivial | with_reducible refine zX ?_ | refine ⟨rfl, ?_⟩ | refine ⟨_, rfl, ?_⟩ | with_reducible refine zP ?_ | with_reducible refine zL ?_ | refine ⟨fun _ => ?_, fun _ => ?_⟩ | refine zn ?_ | refine zb rfl ?_ | refine zX ?_ | refine zo rfl ?_ | refine zs ?_ | intro _)); all_goals (try (conv => whnf))
            rw [next1 (by simpa using hlt) hlen]
            refine hN (n - 1) _ (by omega) ⟨i + 1, f2, by omega, ⟨hI2.may, hI2.fst, fun x hx j hj hs hlt3 => ?_⟩, hf2, rfl⟩
            refine hI2.ok x hx j hj ?_ hlt3
            rw [List.take_add_one, List.getElem?_eq_getElem hlt] at hs
            rcases List.mem_append.1 hs with hs | hs
            · exact .inl hs
            · simp only [Option.toList_some, List.mem_singleton] at hs
              subst hs
              refine .inr ⟨rfl, Int.not_le.1 fun hle => ?_⟩
              have := Int.mul_le_mul_of_nonneg_right hle (show 0 ≤ l[i].t by omega)
              omega
      · have hb := lt_f (n := (l.map eL).length) (by simpa using hlt)
        have hend := hI.end fun x hx k _ _ => by rw [List.take_of_length_le (by omega)]; exact hx
        by_cases hfe : f > e0
        · have hb3 : decide (f > e0) = true := decide_eq_true hfe
          rw [if_pos hfe] at hend
          (repeat' ((conv => whnf); first | exact trivial | with_reducible refine zX ?_ | refine ⟨rfl, ?_⟩ | refine ⟨_, rfl, ?_⟩ | with_reducible refine zP ?_ | with_reducible refine zL ?_ | refine ⟨fun _ => ?_, fun _ => ?_⟩ | refine zn ?_ | refine zb rfl ?_ | refine zX ?_ | refine zo rfl ?_ | refine zs ?_ | intro _)); all_goals (try (conv => whnf))
          show resOf _ = DV.tup [TV.p (.int .i64 (firstV l e0)), TV.p (.bool (true && decide (firstV l e0 ≠ 0)))]
          rw [hend]
          rfl
        · have hb3 : decide (f > e0) = false := decide_eq_false hfe
          rw [if_neg hfe] at hend
          have hf1 : f ≠ 0 := by rcases hI.fst with h | h <;> omega
          (repeat' ((conv => whnf); first | exact trivial | with_reducible refine zX ?_ | refine ⟨rfl, ?_⟩ | refine ⟨_, rfl, ?_⟩ | with_reducible refine zP ?_ | with_reducible refine zL ?_ | refine ⟨fun _ => ?_, fun _ => ?_⟩ | refine zn ?_ | refine zb rfl ?_ | refine zX ?_ | refine zo rfl ?_ | refine zs ?_ | intro _)); all_goals (try (conv => whnf))
          show resOf _ = DV.tup [TV.p (.int .i64 (firstV l e0)), TV.p (.bool (true && decide (firstV l e0 ≠ 0)))]
          rw [hend, decide_eq_true hf1]
          rfl
theorem fits47 (nl : Bool) (l : List Ld) : PureCall Tryz.prog 47 [sL nl l] (.p (.bool (fitsB l))) := by
  have h1 := time66 nl l
  have h2 := first67 nl l
  rw [fitsB_eq]
  generalize timeV l = T at *
  obtain ⟨e0, ok⟩ := T
  refine Fn.run k47 rfl ?_
  generalize Tryz.prog = P at *
  (repeat' ((conv => whnf); first | exact trivial | with_reducible refine zX ?_ | refine ⟨rfl, ?_⟩ | refine ⟨_, rfl, ?_⟩ | with_reducible refine zP ?_ | with_reducible refine zL ?_ | refine ⟨fun _ => ?_, fun _ => ?_⟩ | refine zn ?_ | refine zb rfl ?_ | refine zX ?_ | refine zo rfl ?_ | refine zs ?_ | intro _)); all_goals (try (conv => whnf))
  · rename_i e
    exact bool_end (by simp only at e; subst e; simp)
  · rename_i e
    exact bool_end (by simp only [Bool.not_true] at e; subst e; simp)
end Go.Proofs.YtkjghcbnmipgfaaGreatDoor.Vc
