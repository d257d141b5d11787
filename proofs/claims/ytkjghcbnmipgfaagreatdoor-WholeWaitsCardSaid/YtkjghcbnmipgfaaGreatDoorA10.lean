/- Part of a proof over a Go program: Cc. No condition. -/
import Derived.Test.YtkjghcbnmipgfaaGreatDoorA09
import Derived.Test.YtkjghcbnmipgfaaGreatDoorA07
import Derived.Test.YtkjghcbnmipgfaaGreatDoorA06
set_option linter.unusedSectionVars false
set_option linter.unusedSimpArgs false
set_option linter.unusedVariables false
set_option maxRecDepth 100000
namespace Go.Proofs.YtkjghcbnmipgfaaGreatDoor.Vc
open Go.RowKit Ma
theorem maxLen_eq : maxLen = 9223372036854775807 := by decide
theorem clone48 (nl : Bool) (l : List Ld) (hnl : nl = true → l = []) (hl : l.length ≤ 1000) : PureCall Tryz.prog 48 [sL nl l] (.ow 3 nl (l.map eL)) := by
  have hm := maxLen_eq
  cases nl with
  | true =>
    have := hnl rfl
    subst this
    refine Fn.run k48 rfl ?_
    generalize Tryz.prog = P at *
    (repeat' ((conv => whnf); first | exact trivial | with_reducible refine zX ?_ | refine ⟨rfl, ?_⟩ | refine ⟨_, rfl, ?_⟩ | with_reducible refine zP ?_ | with_reducible refine zL ?_ | refine ⟨fun _ => ?_, fun _ => ?_⟩ | refine zn ?_ | refine zb rfl ?_ | refine zX ?_ | refine zo rfl ?_ | refine zs ?_ | intro _)); all_goals (try (conv => whnf))
    all_goals rfl
  | false =>
    refine Fn.run k48 rfl ?_
    generalize Tryz.prog = P at *
    (repeat' ((conv => whnf); first | exact trivial | with_reducible refine zX ?_ | refine ⟨rfl, ?_⟩ | refine ⟨_, rfl, ?_⟩ | with_reducible refine zP ?_ | with_reducible refine zL ?_ | refine ⟨fun _ => ?_, fun _ => ?_⟩ | refine zn ?_ | refine zb rfl ?_ | refine zX ?_ | refine zo rfl ?_ | refine zs ?_ | intro _)); all_goals (try (conv => whnf))
    all_goals rfl
theorem snoc (nl : Bool) (l : List Ld) (x : Ld) : PV.sl 3 nl (l.map eL ++ [eL x]) = sL nl (l ++ [x]) := by simp [sL]
theorem with92 (nl : Bool) (l : List Ld) (hnl : nl = true → l = []) (hl : l.length ≤ 1000) (x : Ld) : PureCall Tryz.prog 92 [sL nl l, eL x] (.p (.bool (fitsB (l ++ [x])))) := by
  have hm := maxLen_eq
  have hc := clone48 nl l hnl hl
  have hf := fits47 false (l ++ [x])
  rw [← snoc] at hf
  cases nl with
  | true =>
    refine Fn.run k92 rfl ?_
    generalize Tryz.prog = P at *
    (repeat' ((conv => whnf); first | exact trivial | with_reducible refine zX ?_ | refine ⟨rfl, ?_⟩ | refine ⟨_, rfl, ?_⟩ | with_reducible refine zP ?_ | with_reducible refine zL ?_ | refine ⟨fun _ => ?_, fun _ => ?_⟩ | refine zn ?_ | refine zb rfl ?_ | refine zX ?_ | refine zo rfl ?_ | refine zs ?_ | intro _)); all_goals (try (conv => whnf))
    all_goals rfl
  | false =>
    refine Fn.run k92 rfl ?_
    generalize Tryz.prog = P at *
    (repeat' ((conv => whnf); first | exact trivial | with_reducible refine zX ?_ | refine ⟨rfl, ?_⟩ | refine ⟨_, rfl, ?_⟩ | with_reducible refine zP ?_ | with_reducible refine zL ?_ | refine ⟨fun _ => ?_, fun _ => ?_⟩ | refine zn ?_ | refine zb rfl ?_ | refine zX ?_ | refine zo rfl ?_ | refine zs ?_ | intro _)); all_goals (try (conv => whnf))
    all_goals rfl
theorem with49 (nl : Bool) (l : List Ld) (hl : l.length ≤ 1000) (x : Ld) : PureCall Tryz.prog 49 [sL nl l, eL x] (.ow 3 false ((l ++ [x]).map eL)) := by
  have hm := maxLen_eq
  refine Fn.run k49 rfl ?_
  generalize Tryz.prog = P at *
  (repeat' ((conv => whnf); first | exact trivial | with_reducible refine zX ?_ | refine ⟨rfl, ?_⟩ | refine ⟨_, rfl, ?_⟩ | with_reducible refine zP ?_ | with_reducible refine zL ?_ | refine ⟨fun _ => ?_, fun _ => ?_⟩ | refine zn ?_ | refine zb rfl ?_ | refine zX ?_ | refine zo rfl ?_ | refine zs ?_ | intro _)); all_goals (try (conv => whnf))
  simp [resOf, TV.dv, eL]
theorem core46 (nl : Bool) (l : List Ld) (hnl : nl = true → l = []) (hl : l.length ≤ 1000) (x : Ld) : PureCall Tryz.prog 46 [sL nl l, .ptr [.int .i64 x.c, .int .i64 x.d, .int .i64 x.t] 0] (.p (.bool (fitsB (l ++ [x])))) := by
  have hm := maxLen_eq
  have hc := clone48 nl l hnl hl
  have hf := fits47 false (l ++ [x])
  rw [← snoc] at hf
  cases nl with
  | true =>
    refine Fn.run k46 rfl ?_
    generalize Tryz.prog = P at *
    (repeat' ((conv => whnf); first | exact trivial | with_reducible refine zX ?_ | refine ⟨rfl, ?_⟩ | refine ⟨_, rfl, ?_⟩ | with_reducible refine zP ?_ | with_reducible refine zL ?_ | refine ⟨fun _ => ?_, fun _ => ?_⟩ | refine zn ?_ | refine zb rfl ?_ | refine zX ?_ | refine zo rfl ?_ | refine zs ?_ | intro _)); all_goals (try (conv => whnf))
    all_goals rfl
  | false =>
    refine Fn.run k46 rfl ?_
    generalize Tryz.prog = P at *
    (repeat' ((conv => whnf); first | exact trivial | with_reducible refine zX ?_ | refine ⟨rfl, ?_⟩ | refine ⟨_, rfl, ?_⟩ | with_reducible refine zP ?_ | with_reducible refine zL ?_ | refine ⟨fun _ => ?_, fun _ => ?_⟩ | refine zn ?_ | refine zb rfl ?_ | refine zX ?_ | refine zo rfl ?_ | refine zs ?_ | intro _)); all_goals (try (conv => whnf))
    all_goals rfl
/-- Loads of each core; is a core's slice nil? -/
abbrev LL := List (Bool × List Ld)
def eC (p : Bool × List Ld) : PV := sL p.1 p.2
def sLL (nl : Bool) (ls : LL) : PV := .sl 1 nl (ls.map eC)
structure LLok (ls : LL) : Prop where
  nils : ∀ p, p ∈ ls → p.1 = true → p.2 = []
  len : ∀ p, p ∈ ls → p.2.length ≤ 1000
  few : ls.length ≤ 1000
theorem index45 (nl : Bool) (l : LL) (f : FuncId) (caps : List PV) (p : Bool × List Ld → Bool) (hp : ∀ x, x ∈ l → PureCall Tryz.prog f ([eC x] ++ caps) (.p (.bool (p x)))) :
    PureCall Tryz.prog 45 [sLL nl l, .fn f caps] (.p (.int .i64 (idxFrom p l 0))) := by
  refine Fn.run k45 rfl ?_
  generalize Tryz.prog = P at *
  (repeat' ((conv => whnf); first | exact trivial | with_reducible refine zX ?_ | refine ⟨rfl, ?_⟩ | refine ⟨_, rfl, ?_⟩ | with_reducible refine zP ?_ | with_reducible refine zL ?_ | refine ⟨fun _ => ?_, fun _ => ?_⟩ | refine zn ?_ | refine zb rfl ?_ | refine zX ?_ | refine zo rfl ?_ | refine zs ?_ | intro _)); all_goals (try (conv => whnf))
  rename_i hlen
  refine loop_inv (fun n s => ∃ i : Nat, n + i = l.length ∧ idxFrom p (l.drop i) i = idxFrom p l 0 ∧ s = ⟨mkT 19 [(0, .p (sLL nl l)), (1, .p (.fn f caps)), (7, .p (.int .i64 (l.map eC).length)), (8, .p (.int .i64 i))], []⟩) l.length ?_ ?_
  · conv => whnf
    exact ⟨0, rfl, rfl, rfl⟩
  · rintro n t b N ⟨i, hi, hI, e⟩ hN
    cases e
    by_cases hlt : i < l.length
    · have hrow : (l.map eC)[i]? = some (eC l[i]) := by simp [hlt]
      have hb := lt_t (n := (l.map eC).length) (by simpa using hlt)
      have hc := hp l[i] (List.getElem_mem _)
      rw [List.drop_eq_getElem_cons hlt] at hI
      simp only [idxFrom] at hI
      (repeat' ((conv => whnf); first | exact trivial | with_reducible refine zX ?_ | refine ⟨rfl, ?_⟩ | refine ⟨_, rfl, ?_⟩ | with_reducible refine zP ?_ | with_reducible refine zL ?_ | refine ⟨fun _ => ?_, fun _ => ?_⟩ | refine zn ?_ | refine zb rfl ?_ | refine zX ?_ | refine zo rfl ?_ | refine zs ?_ | intro _)); all_goals (try (conv => whnf))
      · rename_i e; rw [if_pos e] at hI; exact int_end hI
      · rename_i e
        rw [next1 (by simpa using hlt) hlen]
        rw [if_neg (by rw [e]; decide)] at hI
        exact hN (n - 1) _ (by omega) ⟨i + 1, by omega, hI, rfl⟩
    · have hb := lt_f (n := (l.map eC).length) (by simpa using hlt)
      (repeat' ((conv => whnf); first | exact trivial | with_reducible refine zX ?_ | refine ⟨rfl, ?_⟩ | refine ⟨_, rfl, ?_⟩ | with_reducible refine zP ?_ | with_reducible refine zL ?_ | refine ⟨fun _ => ?_, fun _ => ?_⟩ | refine zn ?_ | refine zb rfl ?_ | refine zX ?_ | refine zo rfl ?_ | refine zs ?_ | intro _)); all_goals (try (conv => whnf))
      rw [List.drop_of_length_le (by omega)] at hI
      exact int_end hI
theorem idx_core (x : Ld) : ∀ (ls : LL) (k : Int), idxFrom (fun p => fitsB (p.2 ++ [x])) ls k = coreFrom x (ls.map (·.2)) k := by
  intro ls
  induction ls with
  | nil => intro k; rfl
  | cons p ls ih => intro k; simp only [idxFrom, List.map_cons, coreFrom]; rw [ih]
theorem core25 (nl : Bool) (ls : LL) (h : LLok ls) (x : Ld) : PureCall Tryz.prog 25 [sLL nl ls, eL x] (.p (.int .i64 (coreV (ls.map (·.2)) x))) := by
  have hc := index45 nl ls 46 [.ptr [.int .i64 x.c, .int .i64 x.d, .int .i64 x.t] 0] (fun p => fitsB (p.2 ++ [x])) fun p hp => core46 p.1 p.2 (h.nils p hp) (h.len p hp) x
  rw [idx_core] at hc
  refine Fn.run k25 rfl ?_
  generalize Tryz.prog = P at *
  (repeat' ((conv => whnf); first | exact trivial | with_reducible refine zX ?_ | refine ⟨rfl, ?_⟩ | refine ⟨_, rfl, ?_⟩ | with_reducible refine zP ?_ | with_reducible refine zL ?_ | refine ⟨fun _ => ?_, fun _ => ?_⟩ | refine zn ?_ | refine zb rfl ?_ | refine zX ?_ | refine zo rfl ?_ | refine zs ?_ | intro _)); all_goals (try (conv => whnf))
  all_goals rfl
theorem core26 (nl : Bool) (ls : LL) (h : LLok ls) (x : Ld) : PureCall Tryz.prog 26 [sLL nl ls, eL x] (.p (.int .i64 (coreV (ls.map (·.2)) x))) := by
  have hm := maxLen_eq
  have hw := fun (p : Bool × List Ld) hp => with49 p.1 p.2 (h.len p hp) x
  have hf := fun (p : Bool × List Ld) => fits34 false (p.2 ++ [x])
  have hfew := h.few
  refine Fn.run k26 rfl ?_
  generalize Tryz.prog = P at *
  (repeat' ((conv => whnf); first | exact trivial | with_reducible refine zX ?_ | refine ⟨rfl, ?_⟩ | refine ⟨_, rfl, ?_⟩ | with_reducible refine zP ?_ | with_reducible refine zL ?_ | refine ⟨fun _ => ?_, fun _ => ?_⟩ | refine zn ?_ | refine zb rfl ?_ | refine zX ?_ | refine zo rfl ?_ | refine zs ?_ | intro _)); all_goals (try (conv => whnf))
  refine loop_inv (fun n s => ∃ i : Nat, n + i = ls.length ∧ coreFrom x ((ls.drop i).map (·.2)) i = coreV (ls.map (·.2)) x ∧ s = ⟨mkT 20 [(0, .p (sLL nl ls)), (3, .addr 0 3 0 0), (5, .p (.int .i64 i))], [some ⟨true, 3, [[.p (.int .i64 x.c), .p (.int .i64 x.d), .p (.int .i64 x.t)]], false⟩]⟩) ls.length ?_ ?_
  · conv => whnf
    exact ⟨0, rfl, rfl, rfl⟩
  · rintro n t b N ⟨i, hi, hI, e⟩ hN
    cases e
    by_cases hlt : i < ls.length
    · have hrow : (ls.map eC)[i]? = some (eC ls[i]) := by simp [hlt]
      have hb := lt_t (n := (ls.map eC).length) (by simpa using hlt)
      have hc := hw ls[i] (List.getElem_mem _)
      have hd := hf ls[i]
      rw [List.drop_eq_getElem_cons hlt] at hI
      simp only [List.map_cons, coreFrom] at hI
      (repeat' ((conv => whnf); first | exact trivial | with_reducible refine zX ?_ | refine ⟨rfl, ?_⟩ | refine ⟨_, rfl, ?_⟩ | with_reducible refine zP ?_ | with_reducible refine zL ?_ | refine ⟨fun _ => ?_, fun _ => ?_⟩ | refine zn ?_ | refine zb rfl ?_ | refine zX ?_ | refine zo rfl ?_ | refine zs ?_ | intro _)); all_goals (try (conv => whnf))
      · rename_i e; rw [if_pos e] at hI; exact int_end hI
      · rename_i e
        rw [next1 (n := ls.length) hlt (by omega)]
        rw [if_neg (by rw [e]; decide)] at hI
        exact hN (n - 1) _ (by omega) ⟨i + 1, by omega, hI, rfl⟩
    · have hb := lt_f (n := (ls.map eC).length) (by simpa using hlt)
      (repeat' ((conv => whnf); first | exact trivial | with_reducible refine zX ?_ | refine ⟨rfl, ?_⟩ | refine ⟨_, rfl, ?_⟩ | with_reducible refine zP ?_ | with_reducible refine zL ?_ | refine ⟨fun _ => ?_, fun _ => ?_⟩ | refine zn ?_ | refine zb rfl ?_ | refine zX ?_ | refine zo rfl ?_ | refine zs ?_ | intro _)); all_goals (try (conv => whnf))
      rw [List.drop_of_length_le (by omega)] at hI
      exact int_end hI
structure Sec where
  res : Int
  at_ : Int
  len : Int
deriving DecidableEq
structure Tk where
  C : Int
  D : Int
  T : Int
  nl : Bool
  secs : List Sec
def eS (x : Sec) : PV := .agg [.int .i64 x.res, .int .i64 x.at_, .int .i64 x.len]
def eT (t : Tk) : PV := .agg [.int .i64 t.C, .int .i64 t.D, .int .i64 t.T, .sl 3 t.nl (t.secs.map eS)]
def eP (p : Pc) : PV := .agg [.int .i64 p.core, .int .i64 p.off, .int .i64 p.len, .int .i64 p.c]
def ePl (kind : Int) (nl : Bool) (ps : List Pc) : PV := .agg [.int .i64 kind, .sl 4 nl (ps.map eP)]
def planR (kind : Int) (ps : List Pc) : DV := if ps = [] then .tup [.p (ePl 0 true []), .p (.bool false)] else .tup [.p (ePl kind false ps), .p (.bool true)]
def wholeP (k D C : Int) : List Pc := if k < 0 then [] else [⟨k, 0, D, C⟩]
theorem place22 (nl : Bool) (ls : LL) (h : LLok ls) (t : Tk) (w : Int) (h1 : -1000000 ≤ t.C + w) (h2 : t.C + w ≤ 1000000) :
    PureCall Tryz.prog 22 [sLL nl ls, eT t, .int .i64 w] (planR 1 (wholeP (coreV (ls.map (·.2)) ⟨t.C + w, t.D, t.T⟩) t.D t.C)) := by
  have hw : IntKind.wrap .i64 (t.C + w) = t.C + w := wrapE (by omega) (by omega)
  have hc := core25 nl ls h ⟨t.C + w, t.D, t.T⟩
  simp only [eL] at hc
  rw [← hw] at hc
  rw [← hw]
  generalize coreV (ls.map (·.2)) ⟨IntKind.wrap .i64 (t.C + w), t.D, t.T⟩ = k at *
  by_cases hk : k < 0
  · have hb : decide (k < 0) = true := decide_eq_true hk
    have e : planR 1 (wholeP k t.D t.C) = .tup [.p (ePl 0 true []), .p (.bool false)] := by unfold planR wholeP; rw [if_pos hk, if_pos rfl]
    rw [e]
    refine Fn.run k22 rfl ?_
    generalize Tryz.prog = P at *
    (repeat' ((conv => whnf); first | exact trivial | with_reducible refine zX ?_ | refine ⟨rfl, ?_⟩ | refine ⟨_, rfl, ?_⟩ | with_reducible refine zP ?_ | with_reducible refine zL ?_ | refine ⟨fun _ => ?_, fun _ => ?_⟩ | refine zn ?_ | refine zb rfl ?_ | refine zX ?_ | refine zo rfl ?_ | refine zs ?_ | intro _)); all_goals (try (conv => whnf))
    all_goals rfl
  · have hb : decide (k < 0) = false := decide_eq_false hk
    have e : planR 1 (wholeP k t.D t.C) = .tup [.p (ePl 1 false [⟨k, 0, t.D, t.C⟩]), .p (.bool true)] := by unfold planR wholeP; rw [if_neg hk, if_neg (by simp)]
    rw [e]
    refine Fn.run k22 rfl ?_
    generalize Tryz.prog = P at *
    (repeat' ((conv => whnf); first | exact trivial | with_reducible refine zX ?_ | refine ⟨rfl, ?_⟩ | refine ⟨_, rfl, ?_⟩ | with_reducible refine zP ?_ | with_reducible refine zL ?_ | refine ⟨fun _ => ?_, fun _ => ?_⟩ | refine zn ?_ | refine zb rfl ?_ | refine zX ?_ | refine zo rfl ?_ | refine zs ?_ | intro _)); all_goals (try (conv => whnf))
    all_goals rfl
theorem whole23 (nl : Bool) (ls : LL) (h : LLok ls) (t : Tk) (w : Int) (h1 : -1000000 ≤ t.C + w) (h2 : t.C + w ≤ 1000000) :
    PureCall Tryz.prog 23 [sLL nl ls, eT t, .int .i64 w] (planR 1 (wholeP (coreV (ls.map (·.2)) ⟨t.C + w, t.D, t.T⟩) t.D t.C)) := by
  have hw : IntKind.wrap .i64 (t.C + w) = t.C + w := wrapE (by omega) (by omega)
  have hc := core26 nl ls h ⟨t.C + w, t.D, t.T⟩
  simp only [eL] at hc
  rw [← hw] at hc
  rw [← hw]
  generalize coreV (ls.map (·.2)) ⟨IntKind.wrap .i64 (t.C + w), t.D, t.T⟩ = k at *
  by_cases hk : k < 0
  · have hb : decide (k < 0) = true := decide_eq_true hk
    have e : planR 1 (wholeP k t.D t.C) = .tup [.p (ePl 0 true []), .p (.bool false)] := by unfold planR wholeP; rw [if_pos hk, if_pos rfl]
    rw [e]
    refine Fn.run k23 rfl ?_
    generalize Tryz.prog = P at *
    (repeat' ((conv => whnf); first | exact trivial | with_reducible refine zX ?_ | refine ⟨rfl, ?_⟩ | refine ⟨_, rfl, ?_⟩ | with_reducible refine zP ?_ | with_reducible refine zL ?_ | refine ⟨fun _ => ?_, fun _ => ?_⟩ | refine zn ?_ | refine zb rfl ?_ | refine zX ?_ | refine zo rfl ?_ | refine zs ?_ | intro _)); all_goals (try (conv => whnf))
    all_goals rfl
  · have hb : decide (k < 0) = false := decide_eq_false hk
    have e : planR 1 (wholeP k t.D t.C) = .tup [.p (ePl 1 false [⟨k, 0, t.D, t.C⟩]), .p (.bool true)] := by unfold planR wholeP; rw [if_neg hk, if_neg (by simp)]
    rw [e]
    refine Fn.run k23 rfl ?_
    generalize Tryz.prog = P at *
    (repeat' ((conv => whnf); first | exact trivial | with_reducible refine zX ?_ | refine ⟨rfl, ?_⟩ | refine ⟨_, rfl, ?_⟩ | with_reducible refine zP ?_ | with_reducible refine zL ?_ | refine ⟨fun _ => ?_, fun _ => ?_⟩ | refine zn ?_ | refine zb rfl ?_ | refine zX ?_ | refine zo rfl ?_ | refine zs ?_ | intro _)); all_goals (try (conv => whnf))
    all_goals rfl
theorem may91 (nl : Bool) (l : List Ld) (d t : Int) : PureCall Tryz.prog 91 [sL nl l, .int .i64 d, .int .i64 t] (.p (.bool (mayM l d t))) := by
  have hf := fits47 nl l
  refine Fn.run k91 rfl ?_
  generalize Tryz.prog = P at *
  (repeat' ((conv => whnf); first | exact trivial | with_reducible refine zX ?_ | refine ⟨rfl, ?_⟩ | refine ⟨_, rfl, ?_⟩ | with_reducible refine zP ?_ | with_reducible refine zL ?_ | refine ⟨fun _ => ?_, fun _ => ?_⟩ | refine zn ?_ | refine zb rfl ?_ | refine zX ?_ | refine zo rfl ?_ | refine zs ?_ | intro _)); all_goals (try (conv => whnf))
  all_goals (refine bool_end (Bool.eq_iff_iff.2 ?_); simp only [mayM, List.length_map, Bool.and_eq_true, Bool.or_eq_true, Bool.and_eq_false_iff, Bool.or_eq_false_iff, decide_eq_true_eq, decide_eq_false_iff_not, Bool.not_eq_true', Bool.not_eq_false', Bool.false_eq_true, Bool.true_eq_false, Bool.not_true, Bool.not_false, ge_iff_le, gt_iff_lt] at *; first | done | omega | (simp only [false_iff]; omega) | (simp only [true_iff]; omega) | grind)
theorem fit72 (nl : Bool) (l : List Ld) (hnl : nl = true → l = []) (hll : l.length ≤ 1000) (d t m : Int) (hm0 : -1000000 ≤ m) : PureCall Tryz.prog 72 [sL nl l, .int .i64 d, .int .i64 t, .int .i64 m] (.p (.int .i64 (mostV l d t m))) := by
  have hmay := may91 nl l d t
  unfold mostV
  cases hM : mayM l d t with
  | false =>
    rw [hM] at hmay
    refine Fn.run k72 rfl ?_
    generalize Tryz.prog = P at *
    (repeat' ((conv => whnf); first | exact trivial | with_reducible refine zX ?_ | refine ⟨rfl, ?_⟩ | refine ⟨_, rfl, ?_⟩ | with_reducible refine zP ?_ | with_reducible refine zL ?_ | refine ⟨fun _ => ?_, fun _ => ?_⟩ | refine zn ?_ | refine zb rfl ?_ | refine zX ?_ | refine zo rfl ?_ | refine zs ?_ | intro _)); all_goals (try (conv => whnf))
    all_goals exact int_end (by simp)
  | true =>
    rw [hM] at hmay
    have hw := fun c => with92 nl l hnl hll ⟨c, d, t⟩
    simp only [eL] at hw
    have hd : 1 ≤ d ∧ d ≤ 200 := by
      simp only [mayM, Bool.and_eq_true, decide_eq_true_eq] at hM
      omega
    obtain ⟨s1, s2, s3, s4⟩ := mostDown_spec l d t (min m d).toNat
    rw [if_pos rfl]
    generalize hV : mostDown l d t (min m d).toNat = V at *
    have hmn : (if d < m then d else m) = min m d := by split <;> omega
    refine Fn.run k72 rfl ?_
    generalize Tryz.prog = P at *
    (repeat' ((conv => whnf); first | exact trivial | with_reducible refine zX ?_ | refine ⟨rfl, ?_⟩ | refine ⟨_, rfl, ?_⟩ | with_reducible refine zP ?_ | with_reducible refine zL ?_ | refine ⟨fun _ => ?_, fun _ => ?_⟩ | refine zn ?_ | refine zb rfl ?_ | refine zX ?_ | refine zo rfl ?_ | refine zs ?_ | intro _)); all_goals (try (conv => whnf))
    refine loop_inv (fun n s => ∃ lo hi : Int, n = (hi - lo).toNat ∧ 0 ≤ lo ∧ hi ≤ min m d ∧ (lo = 0 ∨ fitW l lo d t = true) ∧ lo ≤ V ∧ (V ≤ hi ∨ (V = 0 ∧ lo = 0)) ∧
      s = ⟨mkT 40 [(0, .p (sL nl l)), (1, .p (.int .i64 d)), (2, .p (.int .i64 t)), (9, .p (.int .i64 lo)), (10, .p (.int .i64 hi))], []⟩) (min m d).toNat ?_ ?_
    · conv => whnf
      refine ⟨0, min m d, by omega, Int.le_refl _, Int.le_refl _, .inl rfl, s1, by omega, ?_⟩
      rw [← hmn]; rfl
    · rintro n st b N ⟨lo, hi, hn, h0, h1, h2, h3, h4, e⟩ hN
      cases e
      by_cases hlt : lo < hi
      · have hb : decide (lo < hi) = true := decide_eq_true hlt
        have e1 : IntKind.wrap .i64 (hi - lo) = hi - lo := wrapE (by omega) (by omega)
        have e2 : IntKind.wrap .i64 (hi - lo + 1) = hi - lo + 1 := wrapE (by omega) (by omega)
        have hq : 1 ≤ (hi - lo + 1) / 2 ∧ (hi - lo + 1) / 2 ≤ hi - lo := by omega
        have e3 : IntKind.wrap .i64 ((hi - lo + 1).tdiv 2) = (hi - lo + 1) / 2 := by
          rw [Int.tdiv_eq_ediv_of_nonneg (by omega)]; exact wrapE (by omega) (by omega)
        have e4 : IntKind.wrap .i64 (lo + (hi - lo + 1) / 2) = lo + (hi - lo + 1) / 2 := wrapE (by omega) (by omega)
        have hc := hw (IntKind.wrap .i64 (lo + IntKind.wrap .i64 ((IntKind.wrap .i64 (IntKind.wrap .i64 (hi - lo) + 1)).tdiv 2)))
        have hg : IntKind.wrap .i64 (lo + IntKind.wrap .i64 ((IntKind.wrap .i64 (IntKind.wrap .i64 (hi - lo) + 1)).tdiv 2)) = lo + (hi - lo + 1) / 2 := by rw [e1, e2, e3, e4]
        (repeat' ((conv => whnf); first | exact trivial | with_reducible refine zX ?_ | refine ⟨rfl, ?_⟩ | refine ⟨_, rfl, ?_⟩ | with_reducible refine zP ?_ | with_reducible refine zL ?_ | refine ⟨fun _ => ?_, fun _ => ?_⟩ | refine zn ?_ | refine zb rfl ?_ | refine zX ?_ | refine zo rfl ?_ | refine zs ?_ | intro _)); all_goals (try (conv => whnf))
        · rename_i e
          rw [hg] at e ⊢
          have hcV : lo + (hi - lo + 1) / 2 ≤ V := by
            refine Int.not_lt.1 fun hlt2 => ?_
            have := s4 _ hlt2 (by omega)
            unfold fitW at this
            rw [e] at this; cases this
          exact hN _ _ (by omega) ⟨lo + (hi - lo + 1) / 2, hi, rfl, by omega, h1, .inr e, hcV, by omega, rfl⟩
        · rename_i e
          rw [hg] at e ⊢
          rw [wrapE (n := lo + (hi - lo + 1) / 2 - 1) (by omega) (by omega)]
          have hcV : V < lo + (hi - lo + 1) / 2 := by
            refine Int.not_le.1 fun hle => ?_
            have := fitW_less (s3 (by omega)) (c' := lo + (hi - lo + 1) / 2) (by omega) hle
            unfold fitW at this
            rw [e] at this; cases this
          exact hN _ _ (by omega) ⟨lo, lo + (hi - lo + 1) / 2 - 1, rfl, h0, by omega, h2, h3, by omega, rfl⟩
      · have hb : decide (lo < hi) = false := decide_eq_false hlt
        (repeat' ((conv => whnf); first | exact trivial | with_reducible refine zX ?_ | refine ⟨rfl, ?_⟩ | refine ⟨_, rfl, ?_⟩ | with_reducible refine zP ?_ | with_reducible refine zL ?_ | refine ⟨fun _ => ?_, fun _ => ?_⟩ | refine zn ?_ | refine zb rfl ?_ | refine zX ?_ | refine zo rfl ?_ | refine zs ?_ | intro _)); all_goals (try (conv => whnf))
        exact int_end (by omega)
theorem eL_mk (c d t : Int) : eL ⟨c, d, t⟩ = .agg [.int .i64 c, .int .i64 d, .int .i64 t] := rfl
theorem most56 (nl : Bool) (l : List Ld) (hll : l.length ≤ 1000) (d t m : Int) (hm0 : -1000000 ≤ m) : PureCall Tryz.prog 56 [sL nl l, .int .i64 d, .int .i64 t, .int .i64 m] (.p (.int .i64 (mostV l d t m))) := by
  have hf := fits34 nl l
  unfold mostV
  cases hM : mayM l d t with
  | false =>
    refine Fn.run k56 rfl ?_
    generalize Tryz.prog = P at *
    (repeat' ((conv => whnf); first | exact trivial | with_reducible refine zX ?_ | refine ⟨rfl, ?_⟩ | refine ⟨_, rfl, ?_⟩ | with_reducible refine zP ?_ | with_reducible refine zL ?_ | refine ⟨fun _ => ?_, fun _ => ?_⟩ | refine zn ?_ | refine zb rfl ?_ | refine zX ?_ | refine zo rfl ?_ | refine zs ?_ | intro _)); all_goals (try (conv => whnf))
    all_goals first | exact int_end (by simp) | skip
    exfalso
    simp only [mayM, Bool.and_eq_false_iff, decide_eq_false_iff_not, Bool.not_eq_false', List.length_map] at *
    grind
  | true =>
    have hM' := hM
    simp only [mayM, Bool.and_eq_true, decide_eq_true_eq] at hM'
    obtain ⟨p1, p2, p3, p4, p5⟩ := hM'
    rw [p5] at hf
    have hb1 : decide (((l.map eL).length : Int) > 23) = false := decide_eq_false (by simp; omega)
    have hb2 : decide (d < 1) = false := decide_eq_false (by omega)
    have hb3 : decide (t < d) = false := decide_eq_false (by omega)
    have hb4 : decide (t > 200) = false := decide_eq_false (by omega)
    have hw := fun c => with49 nl l hll ⟨c, d, t⟩
    have hf2 := fun c => fits34 false (l ++ [⟨c, d, t⟩])
    simp only [eL_mk] at hw
    rw [if_pos rfl]
    have hmn : (if d < m then d else m) = min m d := by split <;> omega
    refine Fn.run k56 rfl ?_
    generalize Tryz.prog = P at *
    (repeat' ((conv => whnf); first | exact trivial | with_reducible refine zX ?_ | refine ⟨rfl, ?_⟩ | refine ⟨_, rfl, ?_⟩ | with_reducible refine zP ?_ | with_reducible refine zL ?_ | refine ⟨fun _ => ?_, fun _ => ?_⟩ | refine zn ?_ | refine zb rfl ?_ | refine zX ?_ | refine zo rfl ?_ | refine zs ?_ | intro _)); all_goals (try (conv => whnf))
    refine loop_inv (fun n s => ∃ c : Int, n = c.toNat ∧ c ≤ min m d ∧ -1000000 ≤ c ∧ mostDown l d t c.toNat = mostDown l d t (min m d).toNat ∧
      s = ⟨mkT 46 [(0, .p (sL nl l)), (1, .p (.int .i64 d)), (2, .p (.int .i64 t)), (9, .p (.int .i64 c))], []⟩) (min m d).toNat ?_ ?_
    · conv => whnf
      refine ⟨min m d, rfl, Int.le_refl _, by omega, rfl, ?_⟩
      rw [← hmn]; rfl
    · rintro n st b N ⟨c, hn, h1, h2, h3, e⟩ hN
      cases e
      by_cases hlt : c ≥ 1
      · have hb : decide (c ≥ 1) = true := decide_eq_true hlt
        have hc := hw c
        have hd := hf2 c
        have hcn : c.toNat = (c - 1).toNat + 1 := by omega
        have hcn2 : (((c - 1).toNat : Int) + 1) = c := by omega
        rw [hcn] at h3
        simp only [mostDown, hcn2] at h3
        (repeat' ((conv => whnf); first | exact trivial | with_reducible refine zX ?_ | refine ⟨rfl, ?_⟩ | refine ⟨_, rfl, ?_⟩ | with_reducible refine zP ?_ | with_reducible refine zL ?_ | refine ⟨fun _ => ?_, fun _ => ?_⟩ | refine zn ?_ | refine zb rfl ?_ | refine zX ?_ | refine zo rfl ?_ | refine zs ?_ | intro _)); all_goals (try (conv => whnf))
        · rename_i e
          unfold fitW at h3
          rw [if_pos e] at h3
          exact int_end h3
        · rename_i e
          unfold fitW at h3
          rw [if_neg (by rw [e]; decide)] at h3
          rw [wrapE (by omega) (by omega)]
          exact hN _ _ (by omega) ⟨c - 1, rfl, by omega, by omega, h3, rfl⟩
      · have hb : decide (c ≥ 1) = false := decide_eq_false hlt
        have h0 : c.toNat = 0 := by omega
        rw [h0] at h3
        (repeat' ((conv => whnf); first | exact trivial | with_reducible refine zX ?_ | refine ⟨rfl, ?_⟩ | refine ⟨_, rfl, ?_⟩ | with_reducible refine zP ?_ | with_reducible refine zL ?_ | refine ⟨fun _ => ?_, fun _ => ?_⟩ | refine zn ?_ | refine zb rfl ?_ | refine zX ?_ | refine zo rfl ?_ | refine zs ?_ | intro _)); all_goals (try (conv => whnf))
        exact int_end h3
theorem tight79 (nl : Bool) (l : List Ld) (hnl : nl = true → l = []) (hll : l.length ≤ 1000) (t m : Int) : PureCall Tryz.prog 79 [sL nl l, .int .i64 t, .int .i64 m] (.p (.int .i64 (tightV l t m))) := by
  have hmay := may91 nl l t t
  unfold tightV
  cases hM : mayM l t t with
  | false =>
    rw [hM] at hmay
    refine Fn.run k79 rfl ?_
    generalize Tryz.prog = P at *
    (repeat' ((conv => whnf); first | exact trivial | with_reducible refine zX ?_ | refine ⟨rfl, ?_⟩ | refine ⟨_, rfl, ?_⟩ | with_reducible refine zP ?_ | with_reducible refine zL ?_ | refine ⟨fun _ => ?_, fun _ => ?_⟩ | refine zn ?_ | refine zb rfl ?_ | refine zX ?_ | refine zo rfl ?_ | refine zs ?_ | intro _)); all_goals (try (conv => whnf))
    all_goals exact int_end (by simp)
  | true =>
    have hM' := hM
    simp only [mayM, Bool.and_eq_true, decide_eq_true_eq] at hM'
    obtain ⟨p1, p2, p3, p4, p5⟩ := hM'
    rw [hM] at hmay
    have hw := fun c d => with92 nl l hnl hll ⟨c, d, t⟩
    simp only [eL_mk] at hw
    rw [if_pos rfl]
    have hmn : (if t < m then t else m) = min m t := by split <;> omega
    refine Fn.run k79 rfl ?_
    generalize Tryz.prog = P at *
    (repeat' ((conv => whnf); first | exact trivial | with_reducible refine zX ?_ | refine ⟨rfl, ?_⟩ | refine ⟨_, rfl, ?_⟩ | with_reducible refine zP ?_ | with_reducible refine zL ?_ | refine ⟨fun _ => ?_, fun _ => ?_⟩ | refine zn ?_ | refine zb rfl ?_ | refine zX ?_ | refine zo rfl ?_ | refine zs ?_ | intro _)); all_goals (try (conv => whnf))
    refine loop_inv (fun n s => ∃ c : Int, n = (min m t - c).toNat ∧ 0 ≤ c ∧ c ≤ 200 ∧ tightUp l t n c = tightUp l t (min m t).toNat 0 ∧
      s = ⟨mkT 31 [(0, .p (sL nl l)), (1, .p (.int .i64 t)), (2, .p (.int .i64 m)), (7, .p (.int .i64 c))], []⟩) (min m t).toNat ?_ ?_
    · conv => whnf
      exact ⟨0, by omega, Int.le_refl _, by omega, rfl, rfl⟩
    · rintro n st b N ⟨c, hn, h0, h1, h2, e⟩ hN
      cases e
      have hcw : IntKind.wrap .i64 (c + 1) = c + 1 := wrapE (by omega) (by omega)
      by_cases hlt : c < (if t < m then t else m)
      · have hb : decide (c < (if t < m then t else m)) = true := decide_eq_true hlt
        rw [hmn] at hlt
        have hc := hw (IntKind.wrap .i64 (c + 1)) (IntKind.wrap .i64 (c + 1))
        have hn1 : n = (min m t - (c + 1)).toNat + 1 := by omega
        rw [hn1] at h2
        simp only [tightUp] at h2
        (repeat' ((conv => whnf); first | exact trivial | with_reducible refine zX ?_ | refine ⟨rfl, ?_⟩ | refine ⟨_, rfl, ?_⟩ | with_reducible refine zP ?_ | with_reducible refine zL ?_ | refine ⟨fun _ => ?_, fun _ => ?_⟩ | refine zn ?_ | refine zb rfl ?_ | refine zX ?_ | refine zo rfl ?_ | refine zs ?_ | intro _)); all_goals (try (conv => whnf))
        · rename_i e
          rw [hcw] at e ⊢
          unfold fitW at h2
          rw [if_pos e] at h2
          exact hN _ _ (by omega) ⟨c + 1, rfl, by omega, by omega, h2, rfl⟩
        · rename_i e
          rw [hcw] at e
          unfold fitW at h2
          rw [if_neg (by rw [e]; decide)] at h2
          exact int_end h2
      · have hb : decide (c < (if t < m then t else m)) = false := decide_eq_false hlt
        rw [hmn] at hlt
        have hn0 : n = 0 := by omega
        subst hn0
        (repeat' ((conv => whnf); first | exact trivial | with_reducible refine zX ?_ | refine ⟨rfl, ?_⟩ | refine ⟨_, rfl, ?_⟩ | with_reducible refine zP ?_ | with_reducible refine zL ?_ | refine ⟨fun _ => ?_, fun _ => ?_⟩ | refine zn ?_ | refine zb rfl ?_ | refine zX ?_ | refine zo rfl ?_ | refine zs ?_ | intro _)); all_goals (try (conv => whnf))
        exact int_end h2
theorem tight60 (nl : Bool) (l : List Ld) (hll : l.length ≤ 1000) (t m : Int) : PureCall Tryz.prog 60 [sL nl l, .int .i64 t, .int .i64 m] (.p (.int .i64 (tightV l t m))) := by
  have hf := fits34 nl l
  unfold tightV
  cases hM : mayM l t t with
  | false =>
    refine Fn.run k60 rfl ?_
    generalize Tryz.prog = P at *
    (repeat' ((conv => whnf); first | exact trivial | with_reducible refine zX ?_ | refine ⟨rfl, ?_⟩ | refine ⟨_, rfl, ?_⟩ | with_reducible refine zP ?_ | with_reducible refine zL ?_ | refine ⟨fun _ => ?_, fun _ => ?_⟩ | refine zn ?_ | refine zb rfl ?_ | refine zX ?_ | refine zo rfl ?_ | refine zs ?_ | intro _)); all_goals (try (conv => whnf))
    all_goals first | exact int_end (by simp) | skip
    exfalso
    simp only [mayM, Bool.and_eq_false_iff, decide_eq_false_iff_not, Bool.not_eq_false', List.length_map] at *
    grind
  | true =>
    have hM' := hM
    simp only [mayM, Bool.and_eq_true, decide_eq_true_eq] at hM'
    obtain ⟨p1, p2, p3, p4, p5⟩ := hM'
    rw [p5] at hf
    have hb1 : decide (((l.map eL).length : Int) > 23) = false := decide_eq_false (by simp; omega)
    have hb2 : decide (t < 1) = false := decide_eq_false (by omega)
    have hb4 : decide (t > 200) = false := decide_eq_false (by omega)
    have hw := fun c d => with49 nl l hll ⟨c, d, t⟩
    have hf2 := fun c d => fits34 false (l ++ [⟨c, d, t⟩])
    simp only [eL_mk] at hw
    rw [if_pos rfl]
    have hmn : (if t < m then t else m) = min m t := by split <;> omega
    refine Fn.run k60 rfl ?_
    generalize Tryz.prog = P at *
    (repeat' ((conv => whnf); first | exact trivial | with_reducible refine zX ?_ | refine ⟨rfl, ?_⟩ | refine ⟨_, rfl, ?_⟩ | with_reducible refine zP ?_ | with_reducible refine zL ?_ | refine ⟨fun _ => ?_, fun _ => ?_⟩ | refine zn ?_ | refine zb rfl ?_ | refine zX ?_ | refine zo rfl ?_ | refine zs ?_ | intro _)); all_goals (try (conv => whnf))
    refine loop_inv (fun n s => ∃ c : Int, n = (min m t - c).toNat ∧ 0 ≤ c ∧ c ≤ 200 ∧ tightUp l t n c = tightUp l t (min m t).toNat 0 ∧
      s = ⟨mkT 43 [(0, .p (sL nl l)), (1, .p (.int .i64 t)), (2, .p (.int .i64 m)), (7, .p (.int .i64 c))], []⟩) (min m t).toNat ?_ ?_
    · conv => whnf
      exact ⟨0, by omega, Int.le_refl _, by omega, rfl, rfl⟩
    · rintro n st b N ⟨c, hn, h0, h1, h2, e⟩ hN
      cases e
      have hcw : IntKind.wrap .i64 (c + 1) = c + 1 := wrapE (by omega) (by omega)
      by_cases hlt : c < (if t < m then t else m)
      · have hb : decide (c < (if t < m then t else m)) = true := decide_eq_true hlt
        rw [hmn] at hlt
        have hc := hw (IntKind.wrap .i64 (c + 1)) (IntKind.wrap .i64 (c + 1))
        have hd := hf2 (IntKind.wrap .i64 (c + 1)) (IntKind.wrap .i64 (c + 1))
        have hn1 : n = (min m t - (c + 1)).toNat + 1 := by omega
        rw [hn1] at h2
        simp only [tightUp] at h2
        (repeat' ((conv => whnf); first | exact trivial | with_reducible refine zX ?_ | refine ⟨rfl, ?_⟩ | refine ⟨_, rfl, ?_⟩ | with_reducible refine zP ?_ | with_reducible refine zL ?_ | refine ⟨fun _ => ?_, fun _ => ?_⟩ | refine zn ?_ | refine zb rfl ?_ | refine zX ?_ | refine zo rfl ?_ | refine zs ?_ | intro _)); all_goals (try (conv => whnf))
        · rename_i e
          rw [hcw] at e ⊢
          unfold fitW at h2
          rw [if_pos e] at h2
          exact hN _ _ (by omega) ⟨c + 1, rfl, by omega, by omega, h2, rfl⟩
        · rename_i e
          rw [hcw] at e
          unfold fitW at h2
          rw [if_neg (by rw [e]; decide)] at h2
          exact int_end h2
      · have hb : decide (c < (if t < m then t else m)) = false := decide_eq_false hlt
        rw [hmn] at hlt
        have hn0 : n = 0 := by omega
        subst hn0
        (repeat' ((conv => whnf); first | exact trivial | with_reducible refine zX ?_ | refine ⟨rfl, ?_⟩ | refine ⟨_, rfl, ?_⟩ | with_reducible refine zP ?_ | with_reducible refine zL ?_ | refine ⟨fun _ => ?_, fun _ => ?_⟩ | refine zn ?_ | refine zb rfl ?_ | refine zX ?_ | refine zo rfl ?_ | refine zs ?_ | intro _)); all_goals (try (conv => whnf))
        exact int_end h2
end Go.Proofs.YtkjghcbnmipgfaaGreatDoor.Vc
