/- Part of a proof over a Go program: Cd. No condition. -/
import Derived.Test.YtkjghcbnmipgfaaGreatDoorA10
set_option linter.unusedSectionVars false
set_option linter.unusedSimpArgs false
set_option linter.unusedVariables false
set_option maxHeartbeats 4000000
set_option maxRecDepth 100000
namespace Go.Proofs.YtkjghcbnmipgfaaGreatDoor.Vc
open Go.RowKit Ma
structure Cf where
  cores : Int
  syncs : Int
  lag : Int
  move : Int
  nl : Bool
  res : List Int
def eI (x : Int) : PV := .int .i64 x
def sI (nl : Bool) (l : List Int) : PV := .sl 1 nl (l.map eI)
def cCf (c : Cf) : List PV := [.int .i64 c.cores, .int .i64 c.syncs, .int .i64 c.lag, .int .i64 c.move, sI c.nl c.res]
def eCf (c : Cf) : PV := .agg [.int .i64 c.cores, .int .i64 c.syncs, .int .i64 c.lag, .int .i64 c.move, sI c.nl c.res]
def bCf (c : Cf) (live : Bool) : Box := ⟨live, 5, [[.p (.int .i64 c.cores), .p (.int .i64 c.syncs), .p (.int .i64 c.lag), .p (.int .i64 c.move), .p (sI c.nl c.res)]], false⟩
def bTk (t : Tk) : Box := ⟨true, 4, [[.p (.int .i64 t.C), .p (.int .i64 t.D), .p (.int .i64 t.T), .p (.sl 3 t.nl (t.secs.map eS))]], false⟩
def badR (syncs a : Int) : Bool := decide (a < 0) || decide (a ≥ syncs)
def headR (c : Cf) : Prop := (1 ≤ c.cores ∧ c.cores ≤ 6) ∧ (0 ≤ c.syncs ∧ c.syncs ≤ 3) ∧ (0 ≤ c.lag ∧ c.lag ≤ 5) ∧ (0 ≤ c.move ∧ c.move ≤ 5)
instance (c : Cf) : Decidable (headR c) := inferInstanceAs (Decidable (_ ∧ _))
def Cf.ok (c : Cf) : Bool := decide (headR c) && (decide (c.res.length ≤ 6) && !c.res.any (badR c.syncs))
theorem bad69 (a : Int) (c : Cf) : PureCall Tryz.prog 69 [.int .i64 a, .ptr (cCf c) 0] (.p (.bool (badR c.syncs a))) := by
  refine Fn.run k69 rfl ?_
  generalize Tryz.prog = P at *
  (repeat' ((conv => whnf); first | exact trivial | with_reducible refine zX ?_ | refine ⟨rfl, ?_⟩ | refine ⟨_, rfl, ?_⟩ | with_reducible refine zP ?_ | with_reducible refine zL ?_ | refine ⟨fun _ => ?_, fun _ => ?_⟩ | refine zn ?_ | refine zb rfl ?_ | refine zX ?_ | refine zo rfl ?_ | refine zs ?_ | intro _)); all_goals (try (conv => whnf))
  all_goals (refine bool_end (Bool.eq_iff_iff.2 ?_); simp only [badR, Bool.and_eq_true, Bool.or_eq_true, Bool.and_eq_false_iff, Bool.or_eq_false_iff, decide_eq_true_eq, decide_eq_false_iff_not, Bool.not_eq_true', Bool.not_eq_false', Bool.false_eq_true, Bool.true_eq_false, Bool.not_true, Bool.not_false, ge_iff_le, gt_iff_lt] at *; first | done | omega | (simp only [false_iff]; omega) | (simp only [true_iff]; omega) | grind)
theorem index90 (nl : Bool) (l : List Int) (f : FuncId) (caps : List PV) (p : Int → Bool) (hp : ∀ x, x ∈ l → PureCall Tryz.prog f ([.int .i64 x] ++ caps) (.p (.bool (p x)))) :
    PureCall Tryz.prog 90 [sI nl l, .fn f caps] (.p (.int .i64 (idxFrom p l 0))) := by
  refine Fn.run k90 rfl ?_
  generalize Tryz.prog = P at *
  (repeat' ((conv => whnf); first | exact trivial | with_reducible refine zX ?_ | refine ⟨rfl, ?_⟩ | refine ⟨_, rfl, ?_⟩ | with_reducible refine zP ?_ | with_reducible refine zL ?_ | refine ⟨fun _ => ?_, fun _ => ?_⟩ | refine zn ?_ | refine zb rfl ?_ | refine zX ?_ | refine zo rfl ?_ | refine zs ?_ | intro _)); all_goals (try (conv => whnf))
  rename_i hlen
  refine loop_inv (fun n s => ∃ i : Nat, n + i = l.length ∧ idxFrom p (l.drop i) i = idxFrom p l 0 ∧ s = ⟨mkT 19 [(0, .p (sI nl l)), (1, .p (.fn f caps)), (7, .p (.int .i64 (l.map eI).length)), (8, .p (.int .i64 i))], []⟩) l.length ?_ ?_
  · conv => whnf
    exact ⟨0, rfl, rfl, rfl⟩
  · rintro n t b N ⟨i, hi, hI, e⟩ hN
    cases e
    by_cases hlt : i < l.length
    · have hrow : (l.map eI)[i]? = some (.int .i64 l[i]) := by simp [hlt, eI]
      have hb := lt_t (n := (l.map eI).length) (by simpa using hlt)
      have hc := hp l[i] (List.getElem_mem _)
      rw [List.drop_eq_getElem_cons hlt] at hI
      simp only [idxFrom] at hI
      (repeat' ((conv => whnf); first | exact trivial | with_reducible refine zX ?_ | refine ⟨rfl, ?_⟩ | refine ⟨_, rfl, ?_⟩ | with_reducible refine zP ?_ | with_reducible refine zL ?_ | refine ⟨fun _ => ?_, fun _ => ?_⟩ | refine zn ?_ | refine zb rfl ?_ | refine zX ?_ | refine zo rfl ?_ | refine zs ?_ | intro _)); all_goals (try (conv => whnf))
      · rename_i e; rw [if_pos e] at hI; exact int_end hI
      · rename_i e
        rw [next1 (by simpa using hlt) hlen]
        rw [if_neg (by rw [e]; decide)] at hI
        exact hN (n - 1) _ (by omega) ⟨i + 1, by omega, hI, rfl⟩
    · have hb := lt_f (n := (l.map eI).length) (by simpa using hlt)
      (repeat' ((conv => whnf); first | exact trivial | with_reducible refine zX ?_ | refine ⟨rfl, ?_⟩ | refine ⟨_, rfl, ?_⟩ | with_reducible refine zP ?_ | with_reducible refine zL ?_ | refine ⟨fun _ => ?_, fun _ => ?_⟩ | refine zn ?_ | refine zb rfl ?_ | refine zX ?_ | refine zo rfl ?_ | refine zs ?_ | intro _)); all_goals (try (conv => whnf))
      rw [List.drop_of_length_le (by omega)] at hI
      exact int_end hI
theorem any70 (nl : Bool) (l : List Int) (f : FuncId) (caps : List PV) (p : Int → Bool) (hp : ∀ x, x ∈ l → PureCall Tryz.prog f ([.int .i64 x] ++ caps) (.p (.bool (p x)))) :
    PureCall Tryz.prog 70 [sI nl l, .fn f caps] (.p (.bool (l.any p))) := by
  have h := index90 nl l f caps p hp
  rw [← idxFrom_any (show (0 : Int) ≤ 0 by omega)]
  refine Fn.run k70 rfl ?_
  generalize Tryz.prog = P at *
  (repeat' ((conv => whnf); first | exact trivial | with_reducible refine zX ?_ | refine ⟨rfl, ?_⟩ | refine ⟨_, rfl, ?_⟩ | with_reducible refine zP ?_ | with_reducible refine zL ?_ | refine ⟨fun _ => ?_, fun _ => ?_⟩ | refine zn ?_ | refine zb rfl ?_ | refine zX ?_ | refine zo rfl ?_ | refine zs ?_ | intro _)); all_goals (try (conv => whnf))
  all_goals exact bool_end rfl
theorem config50 (c : Cf) (hl : c.res.length ≤ 1000) : PureCall Tryz.prog 50 [eCf c] (.p (.bool c.ok)) := by
  have h1 := within68 c.cores 1 6
  have h2 := within68 c.syncs 0 3
  have h3 := within68 c.lag 0 5
  have h4 := within68 c.move 0 5
  have h5 := any70 c.nl c.res 69 [.ptr (cCf c) 0] (badR c.syncs) fun x _ => bad69 x c
  unfold Cf.ok
  by_cases hh : headR c
  · have hh' := hh
    unfold headR at hh'
    obtain ⟨⟨a1, a2⟩, ⟨a3, a4⟩, ⟨a5, a6⟩, a7, a8⟩ := hh'
    have b1 : (decide (1 ≤ c.cores) && decide (c.cores ≤ 6)) = true := by simp [a1, a2]
    have b2 : (decide (0 ≤ c.syncs) && decide (c.syncs ≤ 3)) = true := by simp [a3, a4]
    have b3 : (decide (0 ≤ c.lag) && decide (c.lag ≤ 5)) = true := by simp [a5, a6]
    have b4 : (decide (0 ≤ c.move) && decide (c.move ≤ 5)) = true := by simp [a7, a8]
    rw [b1] at h1; rw [b2] at h2; rw [b3] at h3; rw [b4] at h4
    rw [decide_eq_true hh, Bool.true_and]
    by_cases hr : c.res.length ≤ 6
    · have hb : decide (((c.res.map eI).length : Int) ≤ 6) = true := decide_eq_true (by simp; omega)
      rw [decide_eq_true hr, Bool.true_and]
      refine Fn.run k50 rfl ?_
      generalize Tryz.prog = P at *
      (repeat' ((conv => whnf); first | exact trivial | with_reducible refine zX ?_ | refine ⟨rfl, ?_⟩ | refine ⟨_, rfl, ?_⟩ | with_reducible refine zP ?_ | with_reducible refine zL ?_ | refine ⟨fun _ => ?_, fun _ => ?_⟩ | refine zn ?_ | refine zb rfl ?_ | refine zX ?_ | refine zo rfl ?_ | refine zs ?_ | intro _)); all_goals (try (conv => whnf))
      all_goals exact bool_end rfl
    · have hb : decide (((c.res.map eI).length : Int) ≤ 6) = false := decide_eq_false (by simp; omega)
      rw [decide_eq_false hr, Bool.false_and]
      refine Fn.run k50 rfl ?_
      generalize Tryz.prog = P at *
      (repeat' ((conv => whnf); first | exact trivial | with_reducible refine zX ?_ | refine ⟨rfl, ?_⟩ | refine ⟨_, rfl, ?_⟩ | with_reducible refine zP ?_ | with_reducible refine zL ?_ | refine ⟨fun _ => ?_, fun _ => ?_⟩ | refine zn ?_ | refine zb rfl ?_ | refine zX ?_ | refine zo rfl ?_ | refine zs ?_ | intro _)); all_goals (try (conv => whnf))
      all_goals exact bool_end rfl
  · rw [decide_eq_false hh, Bool.false_and]
    have hh' : ((decide (1 ≤ c.cores) && decide (c.cores ≤ 6)) && ((decide (0 ≤ c.syncs) && decide (c.syncs ≤ 3)) && ((decide (0 ≤ c.lag) && decide (c.lag ≤ 5)) && (decide (0 ≤ c.move) && decide (c.move ≤ 5))))) = false := by
      refine Bool.eq_false_iff.2 fun e => hh ?_
      simpa [headR] using e
    generalize (decide (1 ≤ c.cores) && decide (c.cores ≤ 6)) = x1 at *
    generalize (decide (0 ≤ c.syncs) && decide (c.syncs ≤ 3)) = x2 at *
    generalize (decide (0 ≤ c.lag) && decide (c.lag ≤ 5)) = x3 at *
    generalize (decide (0 ≤ c.move) && decide (c.move ≤ 5)) = x4 at *
    refine Fn.run k50 rfl ?_
    generalize Tryz.prog = P at *
    clear hh h5
    (repeat' ((conv => whnf); first | exact trivial | with_reducible refine zX ?_ | refine ⟨rfl, ?_⟩ | refine ⟨_, rfl, ?_⟩ | with_reducible refine zP ?_ | with_reducible refine zL ?_ | refine ⟨fun _ => ?_, fun _ => ?_⟩ | refine zn ?_ | refine zb rfl ?_ | refine zX ?_ | refine zo rfl ?_ | refine zs ?_ | intro _)); all_goals (try (conv => whnf))
    all_goals first
      | exact bool_end rfl
      | (exfalso
         have e1 : x1 = true := by first | assumption | (simpa using (by assumption : (!x1) = false))
         have e2 : x2 = true := by first | assumption | (simpa using (by assumption : (!x2) = false))
         have e3 : x3 = true := by first | assumption | (simpa using (by assumption : (!x3) = false))
         have e4 : x4 = true := by first | assumption | (simpa using (by assumption : (!x4) = false))
         rw [e1, e2, e3, e4] at hh'
         exact absurd hh' (by decide))
theorem config42 (c : Cf) (hl : c.res.length ≤ 1000) : PureCall Tryz.prog 42 [eCf c] (.p (.bool c.ok)) := by
  have hm := maxLen_eq
  have h1 := in65 c.cores 1 6
  have h2 := in65 c.syncs 0 3
  have h3 := in65 c.lag 0 5
  have h4 := in65 c.move 0 5
  refine Fn.run k42 rfl ?_
  generalize Tryz.prog = P at *
  (repeat' ((conv => whnf); first | exact trivial | with_reducible refine zX ?_ | refine ⟨rfl, ?_⟩ | refine ⟨_, rfl, ?_⟩ | with_reducible refine zP ?_ | with_reducible refine zL ?_ | refine ⟨fun _ => ?_, fun _ => ?_⟩ | refine zn ?_ | refine zb rfl ?_ | refine zX ?_ | refine zo rfl ?_ | refine zs ?_ | intro _)); all_goals (try (conv => whnf))
  refine loop_inv (fun n s => ∃ i : Nat, n + i = c.res.length ∧ (c.res.drop i).any (badR c.syncs) = c.res.any (badR c.syncs) ∧ s = ⟨mkT 51 [(1, .addr 0 5 0 0), (3, .p (.int .i64 i))], [some (bCf c true)]⟩) c.res.length ?_ ?_
  · conv => whnf
    exact ⟨0, rfl, rfl, rfl⟩
  · rintro n t b N ⟨i, hi, hI, e⟩ hN
    cases e
    by_cases hlt : i < c.res.length
    · have hrow : (c.res.map eI)[i]? = some (.int .i64 c.res[i]) := by simp [hlt, eI]
      have hb := lt_t (n := (c.res.map eI).length) (by simpa using hlt)
      rw [List.drop_eq_getElem_cons hlt] at hI
      simp only [List.any_cons] at hI
      by_cases c1 : c.res[i] < 0
      · have d1 : decide (c.res[i] < 0) = true := decide_eq_true c1
        have hok : c.ok = false := by
          unfold Cf.ok; rw [← hI]; simp [badR, c1]
        (repeat' ((conv => whnf); first | exact trivial | with_reducible refine zX ?_ | refine ⟨rfl, ?_⟩ | refine ⟨_, rfl, ?_⟩ | with_reducible refine zP ?_ | with_reducible refine zL ?_ | refine ⟨fun _ => ?_, fun _ => ?_⟩ | refine zn ?_ | refine zb rfl ?_ | refine zX ?_ | refine zo rfl ?_ | refine zs ?_ | intro _)); all_goals (try (conv => whnf))
        exact bool_end hok.symm
      · have d1 : decide (c.res[i] < 0) = false := decide_eq_false c1
        by_cases c2 : c.res[i] ≥ c.syncs
        · have d2 : decide (c.res[i] ≥ c.syncs) = true := decide_eq_true c2
          have hok : c.ok = false := by
            unfold Cf.ok; rw [← hI]; simp [badR, d2]
          (repeat' ((conv => whnf); first | exact trivial | with_reducible refine zX ?_ | refine ⟨rfl, ?_⟩ | refine ⟨_, rfl, ?_⟩ | with_reducible refine zP ?_ | with_reducible refine zL ?_ | refine ⟨fun _ => ?_, fun _ => ?_⟩ | refine zn ?_ | refine zb rfl ?_ | refine zX ?_ | refine zo rfl ?_ | refine zs ?_ | intro _)); all_goals (try (conv => whnf))
          exact bool_end hok.symm
        · have d2 : decide (c.res[i] ≥ c.syncs) = false := decide_eq_false c2
          have hbad : badR c.syncs c.res[i] = false := by unfold badR; rw [d1, d2]; rfl
          rw [hbad, Bool.false_or] at hI
          (repeat' ((conv => whnf); first | exact trivial | with_reducible refine zX ?_ | refine ⟨rfl, ?_⟩ | refine ⟨_, rfl, ?_⟩ | with_reducible refine zP ?_ | with_reducible refine zL ?_ | refine ⟨fun _ => ?_, fun _ => ?_⟩ | refine zn ?_ | refine zb rfl ?_ | refine zX ?_ | refine zo rfl ?_ | refine zs ?_ | intro _)); all_goals (try (conv => whnf))
          rw [next1 (n := c.res.length) hlt (by omega)]
          exact hN (n - 1) _ (by omega) ⟨i + 1, by omega, hI, rfl⟩
    · have hb := lt_f (n := (c.res.map eI).length) (by simpa using hlt)
      rw [List.drop_of_length_le (by omega)] at hI
      have hI' : c.res.any (badR c.syncs) = false := by rw [← hI]; rfl
      clear hN hI
      by_cases hh : headR c
      · have hh' := hh
        unfold headR at hh'
        obtain ⟨⟨a1, a2⟩, ⟨a3, a4⟩, ⟨a5, a6⟩, a7, a8⟩ := hh'
        have b1 : (decide (1 ≤ c.cores) && decide (c.cores ≤ 6)) = true := by simp [a1, a2]
        have b2 : (decide (0 ≤ c.syncs) && decide (c.syncs ≤ 3)) = true := by simp [a3, a4]
        have b3 : (decide (0 ≤ c.lag) && decide (c.lag ≤ 5)) = true := by simp [a5, a6]
        have b4 : (decide (0 ≤ c.move) && decide (c.move ≤ 5)) = true := by simp [a7, a8]
        rw [b1] at h1; rw [b2] at h2; rw [b3] at h3; rw [b4] at h4
        have hok : c.ok = decide (((c.res.map eI).length : Int) ≤ 6) := by
          unfold Cf.ok; rw [hI', decide_eq_true hh, Bool.true_and, Bool.not_false, Bool.and_true, Bool.eq_iff_iff]; simp; omega
        rw [hok]
        (repeat' ((conv => whnf); first | exact trivial | with_reducible refine zX ?_ | refine ⟨rfl, ?_⟩ | refine ⟨_, rfl, ?_⟩ | with_reducible refine zP ?_ | with_reducible refine zL ?_ | refine ⟨fun _ => ?_, fun _ => ?_⟩ | refine zn ?_ | refine zb rfl ?_ | refine zX ?_ | refine zo rfl ?_ | refine zs ?_ | intro _)); all_goals (try (conv => whnf))
        all_goals exact bool_end rfl
      · have hok : c.ok = false := by unfold Cf.ok; rw [decide_eq_false hh, Bool.false_and]
        rw [hok]
        have hh' : ((decide (1 ≤ c.cores) && decide (c.cores ≤ 6)) && ((decide (0 ≤ c.syncs) && decide (c.syncs ≤ 3)) && ((decide (0 ≤ c.lag) && decide (c.lag ≤ 5)) && (decide (0 ≤ c.move) && decide (c.move ≤ 5))))) = false := by
          refine Bool.eq_false_iff.2 fun e => hh ?_
          simpa [headR] using e
        generalize (decide (1 ≤ c.cores) && decide (c.cores ≤ 6)) = x1 at *
        generalize (decide (0 ≤ c.syncs) && decide (c.syncs ≤ 3)) = x2 at *
        generalize (decide (0 ≤ c.lag) && decide (c.lag ≤ 5)) = x3 at *
        generalize (decide (0 ≤ c.move) && decide (c.move ≤ 5)) = x4 at *
        (repeat' ((conv => whnf); first | exact trivial | with_reducible refine zX ?_ | refine ⟨rfl, ?_⟩ | refine ⟨_, rfl, ?_⟩ | with_reducible refine zP ?_ | with_reducible refine zL ?_ | refine ⟨fun _ => ?_, fun _ => ?_⟩ | refine zn ?_ | refine zb rfl ?_ | refine zX ?_ | refine zo rfl ?_ | refine zs ?_ | intro _)); all_goals (try (conv => whnf))
        all_goals first
          | exact bool_end rfl
          | exact bool_end (by assumption)
          | (exfalso
             have e1 : x1 = true := by assumption
             have e2 : x2 = true := by assumption
             have e3 : x3 = true := by assumption
             have e4 : x4 = true := by assumption
             rw [e1, e2, e3, e4] at hh'
             exact absurd hh' (by decide))
def secsB (nres C : Int) : Int → List Sec → Bool
  | _, [] => true
  | last, s :: ss => decide (0 ≤ s.res) && (decide (s.res < nres) && (decide (1 ≤ s.len) && (decide (s.len ≤ 200) && (decide (last < s.at_) && (decide (s.at_ < C) && secsB nres C s.at_ ss)))))
def headT (t : Tk) : Prop := 1 ≤ t.C ∧ t.C ≤ t.D ∧ t.D ≤ t.T ∧ t.T ≤ 200 ∧ t.secs.length ≤ 2
instance (t : Tk) : Decidable (headT t) := inferInstanceAs (Decidable (_ ∧ _))
def Tk.ok (nres : Int) (t : Tk) : Bool := decide (headT t) && secsB nres t.C 0 t.secs
theorem head_no {t : Tk} (hh : ¬ headT t) : (decide (t.C < 1) || (decide (t.C > t.D) || (decide (t.D > t.T) || (decide (t.T > 200) || decide (((t.secs.map eS).length : Int) > 2))))) = true := by
  unfold headT at hh
  simp only [Bool.or_eq_true, decide_eq_true_eq, List.length_map]
  omega
theorem task51 (c : Cf) (t : Tk) (hl : t.secs.length ≤ 1000) : PureCall Tryz.prog 51 [eCf c, eT t] (.p (.bool (t.ok c.res.length))) := by
  have hm := maxLen_eq
  have hwi := fun n => within68 n 1 200
  unfold Tk.ok
  by_cases hh : headT t
  · rw [decide_eq_true hh, Bool.true_and]
    obtain ⟨a1, a2, a3, a4, a5⟩ := hh
    have b1 : decide (t.C < 1) = false := decide_eq_false (by omega)
    have b2 : decide (t.C > t.D) = false := decide_eq_false (by omega)
    have b3 : decide (t.D > t.T) = false := decide_eq_false (by omega)
    have b4 : decide (t.T > 200) = false := decide_eq_false (by omega)
    have b5 : decide (((t.secs.map eS).length : Int) > 2) = false := decide_eq_false (by simp; omega)
    refine Fn.run k51 rfl ?_
    generalize Tryz.prog = P at *
    (repeat' ((conv => whnf); first | exact trivial | with_reducible refine zX ?_ | refine ⟨rfl, ?_⟩ | refine ⟨_, rfl, ?_⟩ | with_reducible refine zP ?_ | with_reducible refine zL ?_ | refine ⟨fun _ => ?_, fun _ => ?_⟩ | refine zn ?_ | refine zb rfl ?_ | refine zX ?_ | refine zo rfl ?_ | refine zs ?_ | intro _)); all_goals (try (conv => whnf))
    refine loop_inv (fun n s => ∃ (i : Nat) (last : Int), n + i = t.secs.length ∧ secsB c.res.length t.C last (t.secs.drop i) = secsB c.res.length t.C 0 t.secs ∧
      s = ⟨mkT 76 [(2, .addr 0 5 0 0), (3, .addr 1 4 0 0), (5, .p (.int .i64 last)), (37, .p (.sl 3 t.nl (t.secs.map eS))), (38, .p (.int .i64 (t.secs.map eS).length)), (39, .p (.int .i64 i))], [some (bCf c true), some (bTk t), none]⟩) t.secs.length ?_ ?_
    · conv => whnf
      exact ⟨0, 0, rfl, rfl, rfl⟩
    · rintro n st b N ⟨i, last, hi, hI, e⟩ hN
      cases e
      by_cases hlt : i < t.secs.length
      · have hrow : (t.secs.map eS)[i]? = some (.agg [.int .i64 t.secs[i].res, .int .i64 t.secs[i].at_, .int .i64 t.secs[i].len]) := by simp [hlt, eS]
        have hb := lt_t (n := (t.secs.map eS).length) (by simpa using hlt)
        rw [List.drop_eq_getElem_cons hlt] at hI
        simp only [secsB] at hI
        have hw := hwi t.secs[i].len
        generalize hsi : t.secs[i] = x at *
        by_cases c1 : 0 ≤ x.res ∧ x.res < (c.res.length : Int) ∧ 1 ≤ x.len ∧ x.len ≤ 200 ∧ last < x.at_ ∧ x.at_ < t.C
        · obtain ⟨c1, c2, c3, c4, c5, c6⟩ := c1
          have d1 : decide (x.res < 0) = false := decide_eq_false (by omega)
          have d2 : decide (x.res ≥ ((c.res.map eI).length : Int)) = false := decide_eq_false (by simp; omega)
          have d3 : (decide (1 ≤ x.len) && decide (x.len ≤ 200)) = true := by simp [c3, c4]
          have d4 : decide (x.at_ ≤ last) = false := decide_eq_false (by omega)
          have d5 : decide (x.at_ ≥ t.C) = false := decide_eq_false (by omega)
          rw [d3] at hw
          rw [decide_eq_true c1, decide_eq_true c2, decide_eq_true c3, decide_eq_true c4, decide_eq_true c5, decide_eq_true c6] at hI
          simp only [Bool.true_and] at hI
          (repeat' ((conv => whnf); first | exact trivial | with_reducible refine zX ?_ | refine ⟨rfl, ?_⟩ | refine ⟨_, rfl, ?_⟩ | with_reducible refine zP ?_ | with_reducible refine zL ?_ | refine ⟨fun _ => ?_, fun _ => ?_⟩ | refine zn ?_ | refine zb rfl ?_ | refine zX ?_ | refine zo rfl ?_ | refine zs ?_ | intro _)); all_goals (try (conv => whnf))
          rw [next1 (n := t.secs.length) hlt (by omega)]
          exact hN (n - 1) _ (by omega) ⟨i + 1, x.at_, by omega, hI, rfl⟩
        · have hfalse : secsB c.res.length t.C 0 t.secs = false := by
            rw [← hI]
            simp only [Bool.and_eq_false_iff, decide_eq_false_iff_not]
            omega
          rw [hfalse]
          have hno : (decide (x.res < 0) || (decide (x.res ≥ ((c.res.map eI).length : Int)) || (!(decide (1 ≤ x.len) && decide (x.len ≤ 200)) || (decide (x.at_ ≤ last) || decide (x.at_ ≥ t.C))))) = true := by
            simp only [Bool.or_eq_true, decide_eq_true_eq, List.length_map, Bool.not_eq_true', Bool.and_eq_false_iff, decide_eq_false_iff_not]
            omega
          generalize (decide (1 ≤ x.len) && decide (x.len ≤ 200)) = y3 at *
          (repeat' ((conv => whnf); first | exact trivial | with_reducible refine zX ?_ | refine ⟨rfl, ?_⟩ | refine ⟨_, rfl, ?_⟩ | with_reducible refine zP ?_ | with_reducible refine zL ?_ | refine ⟨fun _ => ?_, fun _ => ?_⟩ | refine zn ?_ | refine zb rfl ?_ | refine zX ?_ | refine zo rfl ?_ | refine zs ?_ | intro _)); all_goals (try (conv => whnf))
          all_goals first
            | exact bool_end rfl
            | (exfalso
               have e1 : decide (x.res < 0) = false := by assumption
               have e2 : decide (x.res ≥ ((c.res.map eI).length : Int)) = false := by assumption
               have e3 : (!y3) = false := by first | assumption | (simp; assumption)
               have e4 : decide (x.at_ ≤ last) = false := by assumption
               have e5 : decide (x.at_ ≥ t.C) = false := by assumption
               rw [e1, e2, e3, e4, e5] at hno
               exact absurd hno (by decide))
      · have hb := lt_f (n := (t.secs.map eS).length) (by simpa using hlt)
        rw [List.drop_of_length_le (by omega)] at hI
        rw [← hI]
        (repeat' ((conv => whnf); first | exact trivial | with_reducible refine zX ?_ | refine ⟨rfl, ?_⟩ | refine ⟨_, rfl, ?_⟩ | with_reducible refine zP ?_ | with_reducible refine zL ?_ | refine ⟨fun _ => ?_, fun _ => ?_⟩ | refine zn ?_ | refine zb rfl ?_ | refine zX ?_ | refine zo rfl ?_ | refine zs ?_ | intro _)); all_goals (try (conv => whnf))
        exact bool_end rfl
  · rw [decide_eq_false hh, Bool.false_and]
    have hno := head_no hh
    refine Fn.run k51 rfl ?_
    generalize Tryz.prog = P at *
    (repeat' ((conv => whnf); first | exact trivial | with_reducible refine zX ?_ | refine ⟨rfl, ?_⟩ | refine ⟨_, rfl, ?_⟩ | with_reducible refine zP ?_ | with_reducible refine zL ?_ | refine ⟨fun _ => ?_, fun _ => ?_⟩ | refine zn ?_ | refine zb rfl ?_ | refine zX ?_ | refine zo rfl ?_ | refine zs ?_ | intro _)); all_goals (try (conv => whnf))
    all_goals first
      | exact bool_end rfl
      | (exfalso
         have e1 : decide (t.C < 1) = false := by assumption
         have e2 : decide (t.C > t.D) = false := by assumption
         have e3 : decide (t.D > t.T) = false := by assumption
         have e4 : decide (t.T > 200) = false := by assumption
         have e5 : decide (((t.secs.map eS).length : Int) > 2) = false := by assumption
         rw [e1, e2, e3, e4, e5] at hno
         exact absurd hno (by decide))
end Go.Proofs.YtkjghcbnmipgfaaGreatDoor.Vc
