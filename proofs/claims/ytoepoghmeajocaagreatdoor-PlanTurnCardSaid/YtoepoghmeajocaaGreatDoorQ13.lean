/- Part of a proof over a Go program: Cd, Rd, Ent, Ce, Lb, Cg. No condition. -/
import Derived.Test.YtoepoghmeajocaaGreatDoorQ12
import Derived.Test.YtoepoghmeajocaaGreatDoorQ01
import Derived.Test.YtoepoghmeajocaaGreatDoorChecked
import Derived.ProofKit
import Derived.LaidMore
import Derived.OpenShut
import Derived.Stop.Joined
import Derived.Lay
import Derived.SevenTiedAt
import Derived.Test.YtoepoghmeajocaaGreatDoorRows
set_option linter.unnecessarySimpa false
set_option linter.unusedSectionVars false
set_option linter.unusedSimpArgs false
set_option linter.unusedVariables false
set_option maxHeartbeats 4000000
set_option maxRecDepth 100000
namespace Go.Proofs.YtoepoghmeajocaaGreatDoor.Vc
open Go.RowKit Ma
structure Cf where
 cores : Int
 syncs : Int
 lag : Int
 move : Int
 nl : Bool
 res : List Int
def eI (x : Int) : PV := .int .i64 x
def sI (nl : Bool) (l : List Int) : PV := .sl 1 nl (l.map eI)
def cCf (c : Cf) : List PV := [.int .i64 c.cores, .int .i64 c.syncs, .int .i64 c.lag, .int .i64 c.move, sI c.nl c.res]
def eCf (c : Cf) : PV := .agg [.int .i64 c.cores, .int .i64 c.syncs, .int .i64 c.lag, .int .i64 c.move, sI c.nl c.res]
def bCf (c : Cf) (live : Bool) : Box := ⟨live, 5, [[.p (.int .i64 c.cores), .p (.int .i64 c.syncs), .p (.int .i64 c.lag), .p (.int .i64 c.move), .p (sI c.nl c.res)]], false⟩
def bTk (t : Tk) : Box := ⟨true, 4, [[.p (.int .i64 t.C), .p (.int .i64 t.D), .p (.int .i64 t.T), .p (.sl 3 t.nl (t.secs.map eS))]], false⟩
def badR (syncs a : Int) : Bool := decide (a < 0) || decide (a ≥ syncs)
def headR (c : Cf) : Prop := (1 ≤ c.cores ∧ c.cores ≤ 6) ∧ (0 ≤ c.syncs ∧ c.syncs ≤ 3) ∧ (0 ≤ c.lag ∧ c.lag ≤ 5) ∧ (0 ≤ c.move ∧ c.move ≤ 5)
instance (c : Cf) : Decidable (headR c) := inferInstanceAs (Decidable (_ ∧ _))
def Cf.ok (c : Cf) : Bool := decide (headR c) && (decide (c.res.length ≤ 6) && !c.res.any (badR c.syncs))
theorem bad69 (a : Int) (c : Cf) : PureCall Tryz.prog 96 [.int .i64 a, .ptr (cCf c) 0] (.p (.bool (badR c.syncs a))) := by
 refine Fn.run k96 rfl ?_
 generalize Tryz.prog = P at *
 (repeat' ((conv => whnf); first | exact trivial | with_reducible refine zX ?_ | refine ⟨rfl, ?_⟩ | refine ⟨_, rfl, ?_⟩ | with_reducible refine zP ?_ | with_reducible refine zL ?_ | refine ⟨fun _ => ?_, fun _ => ?_⟩ | refine zn ?_ | refine zb rfl ?_ | refine zX ?_ | refine zo rfl ?_ | refine zs ?_ | intro _)); all_goals (try (conv => whnf))
 all_goals (refine bool_end (Bool.eq_iff_iff.2 ?_); simp only [badR, Bool.and_eq_true, Bool.or_eq_true, Bool.and_eq_false_iff, Bool.or_eq_false_iff, decide_eq_true_eq, decide_eq_false_iff_not, Bool.not_eq_true', Bool.not_eq_false', Bool.false_eq_true, Bool.true_eq_false, Bool.not_true, Bool.not_false, ge_iff_le, gt_iff_lt] at *; first | done | omega | (simp only [false_iff]; omega) | (simp only [true_iff]; omega) | grind)
theorem index90 (nl : Bool) (l : List Int) (f : FuncId) (caps : List PV) (p : Int → Bool) (hp : ∀ x, x ∈ l → PureCall Tryz.prog f ([.int .i64 x] ++ caps) (.p (.bool (p x)))) :
  PureCall Tryz.prog 129 [sI nl l, .fn f caps] (.p (.int .i64 (idxFrom p l 0))) := by
 refine Fn.run k129 rfl ?_
 generalize Tryz.prog = P at *
 (repeat' ((conv => whnf); first | exact trivial | with_reducible refine zX ?_ | refine ⟨rfl, ?_⟩ | refine ⟨_, rfl, ?_⟩ | with_reducible refine zP ?_ | with_reducible refine zL ?_ | refine ⟨fun _ => ?_, fun _ => ?_⟩ | refine zn ?_ | refine zb rfl ?_ | refine zX ?_ | refine zo rfl ?_ | refine zs ?_ | intro _)); all_goals (try (conv => whnf))
 rename_i hlen
 refine loop_inv (fun n s => ∃ i : Nat, n + i = l.length ∧ idxFrom p (l.drop i) i = idxFrom p l 0 ∧ s = ⟨mkT 19 [(0, .p (sI nl l)), (1, .p (.fn f caps)), (7, .p (.int .i64 (l.map eI).length)), (8, .p (.int .i64 i))], []⟩) l.length ?_ ?_
 ·conv => whnf
  exact ⟨0, rfl, rfl, rfl⟩
 ·rintro n t b N ⟨i, hi, hI, e⟩ hN
  cases e
  by_cases hlt : i < l.length
  ·have hrow : (l.map eI)[i]? = some (.int .i64 l[i]) := by simp [hlt, eI]
   have hb := lt_t (n := (l.map eI).length) (by simpa using hlt)
   have hc := hp l[i] (List.getElem_mem _)
   rw [List.drop_eq_getElem_cons hlt] at hI
   simp only [idxFrom] at hI
   (repeat' ((conv => whnf); first | exact trivial | with_reducible refine zX ?_ | refine ⟨rfl, ?_⟩ | refine ⟨_, rfl, ?_⟩ | with_reducible refine zP ?_ | with_reducible refine zL ?_ | refine ⟨fun _ => ?_, fun _ => ?_⟩ | refine zn ?_ | refine zb rfl ?_ | refine zX ?_ | refine zo rfl ?_ | refine zs ?_ | intro _)); all_goals (try (conv => whnf))
   ·rename_i e; rw [if_pos e] at hI; exact int_end hI
   ·rename_i e
    rw [next1 (by simpa using hlt) hlen]
    rw [if_neg (by rw [e]; decide)] at hI
    exact hN (n - 1) _ (by omega) ⟨i + 1, by omega, hI, rfl⟩
  ·have hb := lt_f (n := (l.map eI).length) (by simpa using hlt)
   (repeat' ((conv => whnf); first | exact trivial | with_reducible refine zX ?_ | refine ⟨rfl, ?_⟩ | refine ⟨_, rfl, ?_⟩ | with_reducible refine zP ?_ | with_reducible refine zL ?_ | refine ⟨fun _ => ?_, fun _ => ?_⟩ | refine zn ?_ | refine zb rfl ?_ | refine zX ?_ | refine zo rfl ?_ | refine zs ?_ | intro _)); all_goals (try (conv => whnf))
   rw [List.drop_of_length_le (by omega)] at hI
   exact int_end hI
theorem any70 (nl : Bool) (l : List Int) (f : FuncId) (caps : List PV) (p : Int → Bool) (hp : ∀ x, x ∈ l → PureCall Tryz.prog f ([.int .i64 x] ++ caps) (.p (.bool (p x)))) :
  PureCall Tryz.prog 97 [sI nl l, .fn f caps] (.p (.bool (l.any p))) := by
 have h := index90 nl l f caps p hp
 rw [← idxFrom_any (show (0 : Int) ≤ 0 by omega)]
 refine Fn.run k97 rfl ?_
 generalize Tryz.prog = P at *
 (repeat' ((conv => whnf); first | exact trivial | with_reducible refine zX ?_ | refine ⟨rfl, ?_⟩ | refine ⟨_, rfl, ?_⟩ | with_reducible refine zP ?_ | with_reducible refine zL ?_ | refine ⟨fun _ => ?_, fun _ => ?_⟩ | refine zn ?_ | refine zb rfl ?_ | refine zX ?_ | refine zo rfl ?_ | refine zs ?_ | intro _)); all_goals (try (conv => whnf))
 all_goals exact bool_end rfl
theorem config50 (c : Cf) (hl : c.res.length ≤ 1000) : PureCall Tryz.prog 51 [eCf c] (.p (.bool c.ok)) := by
 have h1 := within68 c.cores 1 6
 have h2 := within68 c.syncs 0 3
 have h3 := within68 c.lag 0 5
 have h4 := within68 c.move 0 5
 have h5 := any70 c.nl c.res 96 [.ptr (cCf c) 0] (badR c.syncs) fun x _ => bad69 x c
 unfold Cf.ok
 by_cases hh : headR c
 ·have hh' := hh
  unfold headR at hh'
  obtain ⟨⟨a1, a2⟩, ⟨a3, a4⟩, ⟨a5, a6⟩, a7, a8⟩ := hh'
  have b1 : (decide (1 ≤ c.cores) && decide (c.cores ≤ 6)) = true := by simp [a1, a2]
  have b2 : (decide (0 ≤ c.syncs) && decide (c.syncs ≤ 3)) = true := by simp [a3, a4]
  have b3 : (decide (0 ≤ c.lag) && decide (c.lag ≤ 5)) = true := by simp [a5, a6]
  have b4 : (decide (0 ≤ c.move) && decide (c.move ≤ 5)) = true := by simp [a7, a8]
  rw [b1] at h1; rw [b2] at h2; rw [b3] at h3; rw [b4] at h4
  rw [decide_eq_true hh, Bool.true_and]
  by_cases hr : c.res.length ≤ 6
  ·have hb : decide (((c.res.map eI).length : Int) ≤ 6) = true := decide_eq_true (by simp; omega)
   rw [decide_eq_true hr, Bool.true_and]
   refine Fn.run k51 rfl ?_
   generalize Tryz.prog = P at *
   (repeat' ((conv => whnf); first | exact trivial | with_reducible refine zX ?_ | refine ⟨rfl, ?_⟩ | refine ⟨_, rfl, ?_⟩ | with_reducible refine zP ?_ | with_reducible refine zL ?_ | refine ⟨fun _ => ?_, fun _ => ?_⟩ | refine zn ?_ | refine zb rfl ?_ | refine zX ?_ | refine zo rfl ?_ | refine zs ?_ | intro _)); all_goals (try (conv => whnf))
   all_goals exact bool_end rfl
  ·have hb : decide (((c.res.map eI).length : Int) ≤ 6) = false := decide_eq_false (by simp; omega)
   rw [decide_eq_false hr, Bool.false_and]
   refine Fn.run k51 rfl ?_
   generalize Tryz.prog = P at *
   (repeat' ((conv => whnf); first | exact trivial | with_reducible refine zX ?_ | refine ⟨rfl, ?_⟩ | refine ⟨_, rfl, ?_⟩ | with_reducible refine zP ?_ | with_reducible refine zL ?_ | refine ⟨fun _ => ?_, fun _ => ?_⟩ | refine zn ?_ | refine zb rfl ?_ | refine zX ?_ | refine zo rfl ?_ | refine zs ?_ | intro _)); all_goals (try (conv => whnf))
   all_goals exact bool_end rfl
 ·rw [decide_eq_false hh, Bool.false_and]
  have hh' : ((decide (1 ≤ c.cores) && decide (c.cores ≤ 6)) && ((decide (0 ≤ c.syncs) && decide (c.syncs ≤ 3)) && ((decide (0 ≤ c.lag) && decide (c.lag ≤ 5)) && (decide (0 ≤ c.move) && decide (c.move ≤ 5))))) = false := by
   refine Bool.eq_false_iff.2 fun e => hh ?_
   simpa [headR] using e
  generalize (decide (1 ≤ c.cores) && decide (c.cores ≤ 6)) = x1 at *
  generalize (decide (0 ≤ c.syncs) && decide (c.syncs ≤ 3)) = x2 at *
  generalize (decide (0 ≤ c.lag) && decide (c.lag ≤ 5)) = x3 at *
  generalize (decide (0 ≤ c.move) && decide (c.move ≤ 5)) = x4 at *
  refine Fn.run k51 rfl ?_
  generalize Tryz.prog = P at *
  clear hh h5
  (repeat' ((conv => whnf); first | exact trivial | with_reducible refine zX ?_ | refine ⟨rfl, ?_⟩ | refine ⟨_, rfl, ?_⟩ | with_reducible refine zP ?_ | with_reducible refine zL ?_ | refine ⟨fun _ => ?_, fun _ => ?_⟩ | refine zn ?_ | refine zb rfl ?_ | refine zX ?_ | refine zo rfl ?_ | refine zs ?_ | intro _)); all_goals (try (conv => whnf))
  all_goals first
   | exact bool_end rfl
   | (exfalso
      have e1 : x1 = true := by first | assumption | (simpa using (by assumption : (!x1) = false))
      have e2 : x2 = true := by first | assumption | (simpa using (by assumption : (!x2) = false))
      have e3 : x3 = true := by first | assumption | (simpa using (by assumption : (!x3) = false))
      have e4 : x4 = true := by first | assumption | (simpa using (by assumption : (!x4) = false))
      rw [e1, e2, e3, e4] at hh'
      exact absurd hh' (by decide))
theorem config42 (c : Cf) (hl : c.res.length ≤ 1000) : PureCall Tryz.prog 47 [eCf c] (.p (.bool c.ok)) := by
 have hm := maxLen_eq
 have h1 := in65 c.cores 1 6
 have h2 := in65 c.syncs 0 3
 have h3 := in65 c.lag 0 5
 have h4 := in65 c.move 0 5
 refine Fn.run k47 rfl ?_
 generalize Tryz.prog = P at *
 (repeat' ((conv => whnf); first | exact trivial | with_reducible refine zX ?_ | refine ⟨rfl, ?_⟩ | refine ⟨_, rfl, ?_⟩ | with_reducible refine zP ?_ | with_reducible refine zL ?_ | refine ⟨fun _ => ?_, fun _ => ?_⟩ | refine zn ?_ | refine zb rfl ?_ | refine zX ?_ | refine zo rfl ?_ | refine zs ?_ | intro _)); all_goals (try (conv => whnf))
 refine loop_inv (fun n s => ∃ i : Nat, n + i = c.res.length ∧ (c.res.drop i).any (badR c.syncs) = c.res.any (badR c.syncs) ∧ s = ⟨mkT 51 [(1, .addr 0 5 0 0), (3, .p (.int .i64 i))], [some (bCf c true)]⟩) c.res.length ?_ ?_
 ·conv => whnf
  exact ⟨0, rfl, rfl, rfl⟩
 ·rintro n t b N ⟨i, hi, hI, e⟩ hN
  cases e
  by_cases hlt : i < c.res.length
  ·have hrow : (c.res.map eI)[i]? = some (.int .i64 c.res[i]) := by simp [hlt, eI]
   have hb := lt_t (n := (c.res.map eI).length) (by simpa using hlt)
   rw [List.drop_eq_getElem_cons hlt] at hI
   simp only [List.any_cons] at hI
   by_cases c1 : c.res[i] < 0
   ·have d1 : decide (c.res[i] < 0) = true := decide_eq_true c1
    have hok : c.ok = false := by
     unfold Cf.ok; rw [← hI]; simp [badR, c1]
    (repeat' ((conv => whnf); first | exact trivial | with_reducible refine zX ?_ | refine ⟨rfl, ?_⟩ | refine ⟨_, rfl, ?_⟩ | with_reducible refine zP ?_ | with_reducible refine zL ?_ | refine ⟨fun _ => ?_, fun _ => ?_⟩ | refine zn ?_ | refine zb rfl ?_ | refine zX ?_ | refine zo rfl ?_ | refine zs ?_ | intro _)); all_goals (try (conv => whnf))
    exact bool_end hok.symm
   ·have d1 : decide (c.res[i] < 0) = false := decide_eq_false c1
    by_cases c2 : c.res[i] ≥ c.syncs
    ·have d2 : decide (c.res[i] ≥ c.syncs) = true := decide_eq_true c2
     have hok : c.ok = false := by
      unfold Cf.ok; rw [← hI]; simp [badR, d2]
     (repeat' ((conv => whnf); first | exact trivial | with_reducible refine zX ?_ | refine ⟨rfl, ?_⟩ | refine ⟨_, rfl, ?_⟩ | with_reducible refine zP ?_ | with_reducible refine zL ?_ | refine ⟨fun _ => ?_, fun _ => ?_⟩ | refine zn ?_ | refine zb rfl ?_ | refine zX ?_ | refine zo rfl ?_ | refine zs ?_ | intro _)); all_goals (try (conv => whnf))
     exact bool_end hok.symm
    ·have d2 : decide (c.res[i] ≥ c.syncs) = false := decide_eq_false c2
     have hbad : badR c.syncs c.res[i] = false := by unfold badR; rw [d1, d2]; rfl
     rw [hbad, Bool.false_or] at hI
     (repeat' ((conv => whnf); first | exact trivial | with_reducible refine zX ?_ | refine ⟨rfl, ?_⟩ | refine ⟨_, rfl, ?_⟩ | with_reducible refine zP ?_ | with_reducible refine zL ?_ | refine ⟨fun _ => ?_, fun _ => ?_⟩ | refine zn ?_ | refine zb rfl ?_ | refine zX ?_ | refine zo rfl ?_ | refine zs ?_ | intro _)); all_goals (try (conv => whnf))
     rw [next1 (n := c.res.length) hlt (by omega)]
     exact hN (n - 1) _ (by omega) ⟨i + 1, by omega, hI, rfl⟩
  ·have hb := lt_f (n := (c.res.map eI).length) (by simpa using hlt)
   rw [List.drop_of_length_le (by omega)] at hI
   have hI' : c.res.any (badR c.syncs) = false := by rw [← hI]; rfl
   clear hN hI
   by_cases hh : headR c
   ·have hh' := hh
    unfold headR at hh'
    obtain ⟨⟨a1, a2⟩, ⟨a3, a4⟩, ⟨a5, a6⟩, a7, a8⟩ := hh'
    have b1 : (decide (1 ≤ c.cores) && decide (c.cores ≤ 6)) = true := by simp [a1, a2]
    have b2 : (decide (0 ≤ c.syncs) && decide (c.syncs ≤ 3)) = true := by simp [a3, a4]
    have b3 : (decide (0 ≤ c.lag) && decide (c.lag ≤ 5)) = true := by simp [a5, a6]
    have b4 : (decide (0 ≤ c.move) && decide (c.move ≤ 5)) = true := by simp [a7, a8]
    rw [b1] at h1; rw [b2] at h2; rw [b3] at h3; rw [b4] at h4
    have hok : c.ok = decide (((c.res.map eI).length : Int) ≤ 6) := by
     unfold Cf.ok; rw [hI', decide_eq_true hh, Bool.true_and, Bool.not_false, Bool.and_true, Bool.eq_iff_iff]; simp; omega
    rw [hok]
    (repeat' ((conv => whnf); first | exact trivial | with_reducible refine zX ?_ | refine ⟨rfl, ?_⟩ | refine ⟨_, rfl, ?_⟩ | with_reducible refine zP ?_ | with_reducible refine zL ?_ | refine ⟨fun _ => ?_, fun _ => ?_⟩ | refine zn ?_ | refine zb rfl ?_ | refine zX ?_ | refine zo rfl ?_ | refine zs ?_ | intro _)); all_goals (try (conv => whnf))
    all_goals exact bool_end rfl
   ·have hok : c.ok = false := by unfold Cf.ok; rw [decide_eq_false hh, Bool.false_and]
    rw [hok]
    have hh' : ((decide (1 ≤ c.cores) && decide (c.cores ≤ 6)) && ((decide (0 ≤ c.syncs) && decide (c.syncs ≤ 3)) && ((decide (0 ≤ c.lag) && decide (c.lag ≤ 5)) && (decide (0 ≤ c.move) && decide (c.move ≤ 5))))) = false := by
     refine Bool.eq_false_iff.2 fun e => hh ?_
     simpa [headR] using e
    generalize (decide (1 ≤ c.cores) && decide (c.cores ≤ 6)) = x1 at *
    generalize (decide (0 ≤ c.syncs) && decide (c.syncs ≤ 3)) = x2 at *
    generalize (decide (0 ≤ c.lag) && decide (c.lag ≤ 5)) = x3 at *
    generalize (decide (0 ≤ c.move) && decide (c.move ≤ 5)) = x4 at *
    (repeat' ((conv => whnf); first | exact trivial | with_reducible refine zX ?_ | refine ⟨rfl, ?_⟩ | refine ⟨_, rfl, ?_⟩ | with_reducible refine zP ?_ | with_reducible refine zL ?_ | refine ⟨fun _ => ?_, fun _ => ?_⟩ | refine zn ?_ | refine zb rfl ?_ | refine zX ?_ | refine zo rfl ?_ | refine zs ?_ | intro _)); all_goals (try (conv => whnf))
    all_goals first
     | exact bool_end rfl
     | exact bool_end (by assumption)
     | (exfalso
        have e1 : x1 = true := by assumption
        have e2 : x2 = true := by assumption
        have e3 : x3 = true := by assumption
        have e4 : x4 = true := by assumption
        rw [e1, e2, e3, e4] at hh'
        exact absurd hh' (by decide))
def secsB (nres C : Int) : Int → List Sec → Bool
 | _, [] => true
 | last, s :: ss => decide (0 ≤ s.res) && (decide (s.res < nres) && (decide (1 ≤ s.len) && (decide (s.len ≤ 200) && (decide (last < s.at_) && (decide (s.at_ < C) && secsB nres C s.at_ ss)))))
def headT (t : Tk) : Prop := 1 ≤ t.C ∧ t.C ≤ t.D ∧ t.D ≤ t.T ∧ t.T ≤ 200 ∧ t.secs.length ≤ 2
instance (t : Tk) : Decidable (headT t) := inferInstanceAs (Decidable (_ ∧ _))
def Tk.ok (nres : Int) (t : Tk) : Bool := decide (headT t) && secsB nres t.C 0 t.secs
theorem head_no {t : Tk} (hh : ¬ headT t) : (decide (t.C < 1) || (decide (t.C > t.D) || (decide (t.D > t.T) || (decide (t.T > 200) || decide (((t.secs.map eS).length : Int) > 2))))) = true := by
 unfold headT at hh
 simp only [Bool.or_eq_true, decide_eq_true_eq, List.length_map]
 omega
theorem task51 (c : Cf) (t : Tk) (hl : t.secs.length ≤ 1000) : PureCall Tryz.prog 52 [eCf c, eT t] (.p (.bool (t.ok c.res.length))) := by
 have hm := maxLen_eq
 have hwi := fun n => within68 n 1 200
 unfold Tk.ok
 by_cases hh : headT t
 ·rw [decide_eq_true hh, Bool.true_and]
  obtain ⟨a1, a2, a3, a4, a5⟩ := hh
  have b1 : decide (t.C < 1) = false := decide_eq_false (by omega)
  have b2 : decide (t.C > t.D) = false := decide_eq_false (by omega)
  have b3 : decide (t.D > t.T) = false := decide_eq_false (by omega)
  have b4 : decide (t.T > 200) = false := decide_eq_false (by omega)
  have b5 : decide (((t.secs.map eS).length : Int) > 2) = false := decide_eq_false (by simp; omega)
  refine Fn.run k52 rfl ?_
  generalize Tryz.prog = P at *
  (repeat' ((conv => whnf); first | exact trivial | with_reducible refine zX ?_ | refine ⟨rfl, ?_⟩ | refine ⟨_, rfl, ?_⟩ | with_reducible refine zP ?_ | with_reducible refine zL ?_ | refine ⟨fun _ => ?_, fun _ => ?_⟩ | refine zn ?_ | refine zb rfl ?_ | refine zX ?_ | refine zo rfl ?_ | refine zs ?_ | intro _)); all_goals (try (conv => whnf))
  refine loop_inv (fun n s => ∃ (i : Nat) (last : Int), n + i = t.secs.length ∧ secsB c.res.length t.C last (t.secs.drop i) = secsB c.res.length t.C 0 t.secs ∧
   s = ⟨mkT 76 [(2, .addr 0 5 0 0), (3, .addr 1 4 0 0), (5, .p (.int .i64 last)), (37, .p (.sl 3 t.nl (t.secs.map eS))), (38, .p (.int .i64 (t.secs.map eS).length)), (39, .p (.int .i64 i))], [some (bCf c true), some (bTk t), none]⟩) t.secs.length ?_ ?_
  ·conv => whnf
   exact ⟨0, 0, rfl, rfl, rfl⟩
  ·rintro n st b N ⟨i, last, hi, hI, e⟩ hN
   cases e
   by_cases hlt : i < t.secs.length
   ·have hrow : (t.secs.map eS)[i]? = some (.agg [.int .i64 t.secs[i].res, .int .i64 t.secs[i].at_, .int .i64 t.secs[i].len]) := by simp [hlt, eS]
    have hb := lt_t (n := (t.secs.map eS).length) (by simpa using hlt)
    rw [List.drop_eq_getElem_cons hlt] at hI
    simp only [secsB] at hI
    have hw := hwi t.secs[i].len
    generalize hsi : t.secs[i] = x at *
    by_cases c1 : 0 ≤ x.res ∧ x.res < (c.res.length : Int) ∧ 1 ≤ x.len ∧ x.len ≤ 200 ∧ last < x.at_ ∧ x.at_ < t.C
    ·obtain ⟨c1, c2, c3, c4, c5, c6⟩ := c1
     have d1 : decide (x.res < 0) = false := decide_eq_false (by omega)
     have d2 : decide (x.res ≥ ((c.res.map eI).length : Int)) = false := decide_eq_false (by simp; omega)
     have d3 : (decide (1 ≤ x.len) && decide (x.len ≤ 200)) = true := by simp [c3, c4]
     have d4 : decide (x.at_ ≤ last) = false := decide_eq_false (by omega)
     have d5 : decide (x.at_ ≥ t.C) = false := decide_eq_false (by omega)
     rw [d3] at hw
     rw [decide_eq_true c1, decide_eq_true c2, decide_eq_true c3, decide_eq_true c4, decide_eq_true c5, decide_eq_true c6] at hI
     simp only [Bool.true_and] at hI
     (repeat' ((conv => whnf); first | exact trivial | with_reducible refine zX ?_ | refine ⟨rfl, ?_⟩ | refine ⟨_, rfl, ?_⟩ | with_reducible refine zP ?_ | with_reducible refine zL ?_ | refine ⟨fun _ => ?_, fun _ => ?_⟩ | refine zn ?_ | refine zb rfl ?_ | refine zX ?_ | refine zo rfl ?_ | refine zs ?_ | intro _)); all_goals (try (conv => whnf))
     rw [next1 (n := t.secs.length) hlt (by omega)]
     exact hN (n - 1) _ (by omega) ⟨i + 1, x.at_, by omega, hI, rfl⟩
    ·have hfalse : secsB c.res.length t.C 0 t.secs = false := by
      rw [← hI]
      simp only [Bool.and_eq_false_iff, decide_eq_false_iff_not]
      omega
     rw [hfalse]
     have hno : (decide (x.res < 0) || (decide (x.res ≥ ((c.res.map eI).length : Int)) || (!(decide (1 ≤ x.len) && decide (x.len ≤ 200)) || (decide (x.at_ ≤ last) || decide (x.at_ ≥ t.C))))) = true := by
      simp only [Bool.or_eq_true, decide_eq_true_eq, List.length_map, Bool.not_eq_true', Bool.and_eq_false_iff, decide_eq_false_iff_not]
      omega
     generalize (decide (1 ≤ x.len) && decide (x.len ≤ 200)) = y3 at *
     (repeat' ((conv => whnf); first | exact trivial | with_reducible refine zX ?_ | refine ⟨rfl, ?_⟩ | refine ⟨_, rfl, ?_⟩ | with_reducible refine zP ?_ | with_reducible refine zL ?_ | refine ⟨fun _ => ?_, fun _ => ?_⟩ | refine zn ?_ | refine zb rfl ?_ | refine zX ?_ | refine zo rfl ?_ | refine zs ?_ | intro _)); all_goals (try (conv => whnf))
     all_goals first
      | exact bool_end rfl
      | (exfalso
         have e1 : decide (x.res < 0) = false := by assumption
         have e2 : decide (x.res ≥ ((c.res.map eI).length : Int)) = false := by assumption
         have e3 : (!y3) = false := by first | assumption | (simp; assumption)
         have e4 : decide (x.at_ ≤ last) = false := by assumption
         have e5 : decide (x.at_ ≥ t.C) = false := by assumption
         rw [e1, e2, e3, e4, e5] at hno
         exact absurd hno (by decide))
   ·have hb := lt_f (n := (t.secs.map eS).length) (by simpa using hlt)
    rw [List.drop_of_length_le (by omega)] at hI
    rw [← hI]
    (repeat' ((conv => whnf); first | exact trivial | with_reducible refine zX ?_ | refine ⟨rfl, ?_⟩ | refine ⟨_, rfl, ?_⟩ | with_reducible refine zP ?_ | with_reducible refine zL ?_ | refine ⟨fun _ => ?_, fun _ => ?_⟩ | refine zn ?_ | refine zb rfl ?_ | refine zX ?_ | refine zo rfl ?_ | refine zs ?_ | intro _)); all_goals (try (conv => whnf))
    exact bool_end rfl
 ·rw [decide_eq_false hh, Bool.false_and]
  have hno := head_no hh
  refine Fn.run k52 rfl ?_
  generalize Tryz.prog = P at *
  (repeat' ((conv => whnf); first | exact trivial | with_reducible refine zX ?_ | refine ⟨rfl, ?_⟩ | refine ⟨_, rfl, ?_⟩ | with_reducible refine zP ?_ | with_reducible refine zL ?_ | refine ⟨fun _ => ?_, fun _ => ?_⟩ | refine zn ?_ | refine zb rfl ?_ | refine zX ?_ | refine zo rfl ?_ | refine zs ?_ | intro _)); all_goals (try (conv => whnf))
  all_goals first
   | exact bool_end rfl
   | (exfalso
      have e1 : decide (t.C < 1) = false := by assumption
      have e2 : decide (t.C > t.D) = false := by assumption
      have e3 : decide (t.D > t.T) = false := by assumption
      have e4 : decide (t.T > 200) = false := by assumption
      have e5 : decide (((t.secs.map eS).length : Int) > 2) = false := by assumption
      rw [e1, e2, e3, e4, e5] at hno
      exact absurd hno (by decide))
end Go.Proofs.YtoepoghmeajocaaGreatDoor.Vc
namespace Go.Proofs.YtoepoghmeajocaaGreatDoor.Vc
open Go.RowKit Ma
section
variable {P : Program}
theorem rd_int {t : TypeId} {k : IntKind} (hu : P.underlying t = some (.int k)) {n : Nat} {cs : List PV} (h : RdT P n t cs) : ∃ m, cs = [.int k m] := by
 cases n with
 | zero => exact h.elim
 | succ n => unfold RdT at h; simpa only [hu] using h
theorem rd_struct {t : TypeId} {fs : Array Field} (hu : P.underlying t = some (.struct fs)) {n : Nat} {cs : List PV} (h : RdT P n t cs) : ∃ n', RdT.RdF (RdT P n') fs.toList cs := by
 cases n with
 | zero => exact h.elim
 | succ n => unfold RdT at h; exact ⟨n, by simpa only [hu] using h⟩
theorem all_map {α : Type} {f : α → PV} {rows : List PV} (h : ∀ row, row ∈ rows → ∃ x, row = f x) : ∃ l : List α, rows = l.map f := by
 induction rows with
 | nil => exact ⟨[], rfl⟩
 | cons r rs ih =>
  obtain ⟨x, hx⟩ := h r (by simp)
  obtain ⟨l, hl⟩ := ih fun row hr => h row (by simp [hr])
  exact ⟨x :: l, by rw [hx, hl]; rfl⟩
theorem rd_slice {t e : TypeId} (hu : P.underlying t = some (.slice e)) {n : Nat} {cs : List PV} (h : RdT P n t cs) {α : Type} {f : α → PV} (hf : ∀ n' rcs, RdT P n' e rcs → ∃ x, mkRow (isS P e) rcs = f x) :
  ∃ nl, ∃ l : List α, cs = [.sl (P.cellsOf e) nl (l.map f)] ∧ (nl = true → l = []) := by
 cases n with
 | zero => exact h.elim
 | succ n =>
  unfold RdT at h
  simp only [hu] at h
  obtain ⟨nl, rows, h1, h2, h3⟩ := h
  obtain ⟨l, rfl⟩ := all_map (f := f) (rows := rows) fun row hr => by
   obtain ⟨rcs, hr1, hr2⟩ := h3 row hr
   obtain ⟨x, hx⟩ := hf n rcs hr1
   exact ⟨x, hr2.trans hx⟩
  exact ⟨nl, l, h1, fun hn => by simpa using h2 hn⟩
end
theorem u2 : Tryz.prog.underlying 2 = some (.int .i64) := by kernel_rfl
theorem u3 : Tryz.prog.underlying 3 = some (.int .i64) := by kernel_rfl
theorem u4 : Tryz.prog.underlying 4 = some .bool := by kernel_rfl
theorem u22 : Tryz.prog.underlying 22 = some (.slice 3) := by kernel_rfl
theorem u25 : Tryz.prog.underlying 25 = some (.slice 45) := by kernel_rfl
theorem u26 : Tryz.prog.underlying 26 = some (.slice 70) := by kernel_rfl
theorem u52 : Tryz.prog.underlying 45 = some (.slice 47) := by kernel_rfl
theorem u24 : Tryz.prog.underlying 24 = some (.struct #[{ name := "Cores", type := 3, offset := 0, embedded := false, tag := "", pkgPath := "", byteOffset := 0 }, { name := "Syncs", type := 3, offset := 1, embedded := false, tag := "", pkgPath := "", byteOffset := 8 }, { name := "Lag", type := 2, offset := 2, embedded := false, tag := "", pkgPath := "", byteOffset := 16 }, { name := "Move", type := 2, offset := 3, embedded := false, tag := "", pkgPath := "", byteOffset := 24 }, { name := "Res", type := 22, offset := 4, embedded := false, tag := "", pkgPath := "", byteOffset := 32 }]) := by kernel_rfl
theorem u28 : Tryz.prog.underlying 28 = some (.struct #[{ name := "C", type := 2, offset := 0, embedded := false, tag := "", pkgPath := "", byteOffset := 0 }, { name := "D", type := 2, offset := 1, embedded := false, tag := "", pkgPath := "", byteOffset := 8 }, { name := "T", type := 2, offset := 2, embedded := false, tag := "", pkgPath := "", byteOffset := 16 }, { name := "Secs", type := 26, offset := 3, embedded := false, tag := "", pkgPath := "", byteOffset := 24 }]) := by kernel_rfl
theorem u30 : Tryz.prog.underlying 47 = some (.struct #[{ name := "C", type := 2, offset := 0, embedded := false, tag := "", pkgPath := "", byteOffset := 0 }, { name := "D", type := 2, offset := 1, embedded := false, tag := "", pkgPath := "", byteOffset := 8 }, { name := "T", type := 2, offset := 2, embedded := false, tag := "", pkgPath := "", byteOffset := 16 }]) := by kernel_rfl
theorem u86 : Tryz.prog.underlying 70 = some (.struct #[{ name := "Res", type := 3, offset := 0, embedded := false, tag := "", pkgPath := "", byteOffset := 0 }, { name := "At", type := 2, offset := 1, embedded := false, tag := "", pkgPath := "", byteOffset := 8 }, { name := "Len", type := 2, offset := 2, embedded := false, tag := "", pkgPath := "", byteOffset := 16 }]) := by kernel_rfl
theorem s3 : isS Tryz.prog 3 = false := by kernel_rfl
theorem s30 : isS Tryz.prog 47 = true := by kernel_rfl
theorem s52 : isS Tryz.prog 45 = false := by kernel_rfl
theorem s86 : isS Tryz.prog 70 = true := by kernel_rfl
theorem c3 : Tryz.prog.cellsOf 3 = 1 := by kernel_rfl
theorem c30 : Tryz.prog.cellsOf 47 = 3 := by kernel_rfl
theorem c52 : Tryz.prog.cellsOf 45 = 1 := by kernel_rfl
theorem c86 : Tryz.prog.cellsOf 70 = 3 := by kernel_rfl
theorem rdLd {n : Nat} {cs : List PV} (h : RdT Tryz.prog n 47 cs) : ∃ x : Ld, mkRow true cs = eL x := by
 obtain ⟨m, h⟩ := rd_struct u30 h
 obtain ⟨a, r, rfl, h1, b, r2, rfl, h2, c, r3, rfl, h3, rfl⟩ := h
 obtain ⟨x, rfl⟩ := rd_int u2 h1
 obtain ⟨y, rfl⟩ := rd_int u2 h2
 obtain ⟨z, rfl⟩ := rd_int u2 h3
 exact ⟨⟨x, y, z⟩, rfl⟩
theorem rdSec {n : Nat} {cs : List PV} (h : RdT Tryz.prog n 70 cs) : ∃ x : Sec, mkRow true cs = eS x := by
 obtain ⟨m, h⟩ := rd_struct u86 h
 obtain ⟨a, r, rfl, h1, b, r2, rfl, h2, c, r3, rfl, h3, rfl⟩ := h
 obtain ⟨x, rfl⟩ := rd_int u3 h1
 obtain ⟨y, rfl⟩ := rd_int u2 h2
 obtain ⟨z, rfl⟩ := rd_int u2 h3
 exact ⟨⟨x, y, z⟩, rfl⟩
theorem rdLds {n : Nat} {cs : List PV} (h : RdT Tryz.prog n 45 cs) : ∃ x : Bool × List Ld, cs = [eC x] ∧ (x.1 = true → x.2 = []) := by
 obtain ⟨nl, l, rfl, hn⟩ := rd_slice u52 h (f := eL) fun n' rcs hr => by rw [s30]; exact rdLd hr
 exact ⟨(nl, l), by rw [c30]; rfl, hn⟩
theorem rdLL {n : Nat} {cs : List PV} (h : RdT Tryz.prog n 25 cs) : ∃ nl, ∃ ls : LL, cs = [sLL nl ls] ∧ (nl = true → ls = []) ∧ ∀ p, p ∈ ls → p.1 = true → p.2 = [] := by
 obtain ⟨nl, l, rfl, hn⟩ := rd_slice u25 h (α := {p : Bool × List Ld // p.1 = true → p.2 = []}) (f := fun p => eC p.1) fun n' rcs hr => by
  obtain ⟨x, rfl, hx⟩ := rdLds hr
  rw [s52]
  exact ⟨⟨x, hx⟩, rfl⟩
 refine ⟨nl, l.map (·.1), ?_, fun h => by rw [hn h]; rfl, fun p hp => ?_⟩
 ·rw [c52]; simp [sLL]
 ·obtain ⟨q, _, rfl⟩ := List.mem_map.1 hp
  exact q.2
theorem rdCf {n : Nat} {cs : List PV} (h : RdT Tryz.prog n 24 cs) : ∃ c : Cf, mkRow true cs = eCf c ∧ (c.nl = true → c.res = []) := by
 obtain ⟨m, h⟩ := rd_struct u24 h
 obtain ⟨a, r, rfl, h1, b, r2, rfl, h2, c, r3, rfl, h3, d, r4, rfl, h4, e, r5, rfl, h5, rfl⟩ := h
 obtain ⟨x, rfl⟩ := rd_int u3 h1
 obtain ⟨y, rfl⟩ := rd_int u3 h2
 obtain ⟨z, rfl⟩ := rd_int u2 h3
 obtain ⟨v, rfl⟩ := rd_int u2 h4
 obtain ⟨nl, l, rfl, hn⟩ := rd_slice u22 h5 (f := eI) fun n' rcs hr => by
  obtain ⟨q, rfl⟩ := rd_int u3 hr
  rw [s3]; exact ⟨q, rfl⟩
 exact ⟨⟨x, y, z, v, nl, l⟩, by rw [c3]; rfl, hn⟩
theorem rdTk {n : Nat} {cs : List PV} (h : RdT Tryz.prog n 28 cs) : ∃ t : Tk, mkRow true cs = eT t ∧ (t.nl = true → t.secs = []) := by
 obtain ⟨m, h⟩ := rd_struct u28 h
 obtain ⟨a, r, rfl, h1, b, r2, rfl, h2, c, r3, rfl, h3, d, r4, rfl, h4, rfl⟩ := h
 obtain ⟨x, rfl⟩ := rd_int u2 h1
 obtain ⟨y, rfl⟩ := rd_int u2 h2
 obtain ⟨z, rfl⟩ := rd_int u2 h3
 obtain ⟨nl, l, rfl, hn⟩ := rd_slice u26 h4 (f := eS) fun n' rcs hr => by rw [s86]; exact rdSec hr
 exact ⟨⟨x, y, z, nl, l⟩, by rw [c86]; rfl, hn⟩
end Go.Proofs.YtoepoghmeajocaaGreatDoor.Vc
namespace Go.Proofs.YtoepoghmeajocaaGreatDoor.Vc
open Go.RowKit Go.ChangeShapes Go.WideShapes Go.ChangeAt Ma
def laidA : List (String × DataW Unit) := [("math/bits.deBruijn32tab", Rows.laid_math_bits_deBruijn32tab), ("math/bits.deBruijn64tab", Rows.laid_math_bits_deBruijn64tab), ("internal/strconv.uint64pow10", Rows.laid_internal_strconv_uint64pow10),
 ("unicode/utf8.acceptRanges", Rows.laid_unicode_utf8_acceptRanges), ("strconv.ErrRange", Rows.laid_strconv_ErrRange), ("strconv.ErrSyntax", Rows.laid_strconv_ErrSyntax), ("unicode/utf8.first", Rows.laid_unicode_utf8_first)]
theorem laid_plain : ∀ w : World, laidMetH Tryz.prog laidA w = laidMet Tryz.prog laidA w := fun w => MakeChecks.laidMetH_plain _ _ _ (by kernel_rfl)
theorem door_met (os : Os) (args : Array Value) : laidMetH Tryz.prog laidA ((World.laidAll Tryz.prog os laidA).forCall (fun _ _ => 0) ⟨#[], args, []⟩).memory := by
 rw [laid_plain]; exact laidMet_laidAll _ (by kernel_rfl) (by kernel_rfl)
theorem and_tt {a b : Bool} (h : a = true) (k : b = true) : (a && b) = true := by rw [h, k]; rfl
abbrev mainSum : String := "eff37f60ec50b9d80453fe4c59c340925473cad4b2f75d1fb1e0df7ad539b24c"
theorem mainIs0 : Tryz.prog.mainIs = some (true, mainSum.toList) := by kernel_rfl
theorem looks0 : true = Tryz.prog.looks [] := by kernel_rfl
theorem stand24 : Tryz.prog.wantsStandIn 24 = false := by kernel_rfl
theorem stand25 : Tryz.prog.wantsStandIn 25 = false := by kernel_rfl
theorem stand28 : Tryz.prog.wantsStandIn 28 = false := by kernel_rfl
theorem stand2 : Tryz.prog.wantsStandIn 2 = false := by kernel_rfl
theorem stand3 : Tryz.prog.wantsStandIn 3 = false := by kernel_rfl
theorem own0 : ownKnob Tryz.prog.godebug = none := by kernel_rfl
theorem laid0 : laidOutB Tryz.prog = true := by kernel_rfl
theorem ok24 : okT Tryz.prog 12 24 = true := by kernel_rfl
theorem ok25 : okT Tryz.prog 12 25 = true := by kernel_rfl
theorem ok28 : okT Tryz.prog 12 28 = true := by kernel_rfl
theorem ok2 : okT Tryz.prog 12 2 = true := by kernel_rfl
theorem ok3 : okT Tryz.prog 12 3 = true := by kernel_rfl
theorem s24 : isS Tryz.prog 24 = true := by kernel_rfl
theorem s25 : isS Tryz.prog 25 = false := by kernel_rfl
theorem s28 : isS Tryz.prog 28 = true := by kernel_rfl
theorem s2 : isS Tryz.prog 2 = false := by kernel_rfl
theorem s4 : isS Tryz.prog 4 = false := by kernel_rfl
section
variable {H : Type} {enc : TypeId × Value → H} {P : Program} {w : World} {base : Nat} {spare : Nat → Bool} {held : Bool}
theorem trodC {t : TypeId} {ts : List TypeId} {vs : List Value} {ds : List (DataW H)} {ps : List MemPlace} (h : DataW.TrodAll enc P w base spare held (t :: ts) vs ds ps) :
  ∃ v vs' d ds' p q, vs = v :: vs' ∧ ds = d :: ds' ∧ ps = p ++ q ∧ DataW.Trod enc P w base spare held t v d p ∧ DataW.TrodAll enc P w base spare held ts vs' ds' q := by
 cases vs with
 | nil => exact h.elim
 | cons v vs' => cases ds with
  | nil => exact h.elim
  | cons d ds' =>
   obtain ⟨p, q, h1, h2, h3⟩ := h
   exact ⟨v, vs', d, ds', p, q, rfl, rfl, h3, h1, h2⟩
theorem trodN {vs : List Value} {ds : List (DataW H)} {ps : List MemPlace} (h : DataW.TrodAll enc P w base spare held [] vs ds ps) : vs = [] ∧ ds = [] ∧ ps = [] := by
 cases vs with
 | nil => cases ds with
  | nil => exact ⟨rfl, rfl, h⟩
  | cons d ds' => exact h.elim
 | cons v vs' => exact h.elim
end
theorem shutB {H : Type} {enc : TypeId × Value → H} {w : World} {base : Nat} {sp : Nat → Bool} {hd : Bool} (b : Bool) : DataW.Trod enc Tryz.prog w base sp hd 4 (.bool b) (.lit (.bool b)) [] := ⟨1, by simp [DataW.trod, Value.cells, u4]⟩
theorem pure_calls {P : Program} {f : FuncId} {args : List PV} {r : DV} (h : PureCall P f args r) (hf : FnOK P f) (M0 : Nat → Nat → Prop) (w : World) (cargs : Array Value) (hs : cargs.size = args.length)
  (ha : ∀ (j : Nat) x v, args[j]? = some x → cargs[j]? = some v → Flat M0 w x v) :
  Calls P f cargs w fun e w' => ∃ v X, e = .returned v ∧ X.w = w' ∧ VRel X w.heap.size (.tmp 0) r v ∧ (∀ b, b < w.heap.size → ∀ o, X.M b o ↔ M0 b o) ∧ Below w.heap.size w w' := by
 rcases h.2 M0 w cargs hs ha with ⟨_, hc⟩ | ⟨v, X, hr, _⟩
 ·exact hc
 ·exfalso
  obtain ⟨fn, h1, h2, h3⟩ := hf
  have h4 : fn.body ≠ none := fun hb => by rw [hb] at h2; cases h2
  simp [callFunc, h1, h3, h4] at hr
end Go.Proofs.YtoepoghmeajocaaGreatDoor.Vc
namespace Go.Proofs.YtoepoghmeajocaaGreatDoor.Vc
open Go.RowKit Ma
theorem mn_facts {α : Type} (m : Nat) (l : List α) : (0 : Int) ≤ (if (m : Int) < (l.length : Int) then (m : Int) else (l.length : Int)) ∧ (if (m : Int) < (l.length : Int) then (m : Int) else (l.length : Int)) ≤ (l.length : Int) ∧
  l.take (if (m : Int) < (l.length : Int) then (m : Int) else (l.length : Int)).toNat = l.take m := by
 split
 ·rename_i h
  exact ⟨by omega, by omega, by rw [Int.toNat_natCast]⟩
 ·rename_i h
  exact ⟨by omega, by omega, by rw [Int.toNat_natCast, List.take_length, List.take_of_length_le (by omega)]⟩
theorem mn_take {α : Type} (m : Nat) (k : Int) (hk : k = m) (l : List α) : l.take (if k < (l.length : Int) then k else (l.length : Int)).toNat = l.take m := by subst hk; exact (mn_facts m l).2.2
theorem isEmpty_map {α β : Type} (f : α → β) (l : List α) : (l.map f).isEmpty = l.isEmpty := by cases l <;> rfl
theorem loads39 (nl : Bool) (l : List Ld) : PureCall Tryz.prog 48 [sL nl l] (.ow 3 (l.take 10).isEmpty ((l.take 10).map eL)) := by
 have hm := maxLen_eq
 obtain ⟨f1, f2, f3⟩ := mn_facts 10 (l.map eL)
 have e : (l.map eL).take 10 = (l.take 10).map eL := by rw [List.map_take]
 have hlen : ((l.map eL).take 10).length ≤ 10 := by simp; omega
 have hA1 : (([] : List PV).length + ((l.map eL).take (if ((10 : Nat) : Int) < ((l.map eL).length : Int) then ((10 : Nat) : Int) else ((l.map eL).length : Int)).toNat).length) * 24 ≤ 140737488355328 := by rw [f3]; simp only [List.length_nil]; omega
 have hA2 : ([] : List PV).length + ((l.map eL).take (if ((10 : Nat) : Int) < ((l.map eL).length : Int) then ((10 : Nat) : Int) else ((l.map eL).length : Int)).toNat).length ≤ maxLen := by rw [f3]; simp only [List.length_nil]; omega
 refine Fn.run k48 rfl ?_
 generalize Tryz.prog = P at *
 (repeat' ((conv => whnf); first | exact trivial | with_reducible refine zX ?_ | refine ⟨rfl, ?_⟩ | refine ⟨_, rfl, ?_⟩ | with_reducible refine zP ?_ | with_reducible refine zL ?_ | refine ⟨fun _ => ?_, fun _ => ?_⟩ | refine zn ?_ | refine zb rfl ?_ | refine zX ?_ | refine zo rfl ?_ | refine zs ?_ | intro _)); all_goals (try (conv => whnf))
 rw [mn_take 10 10 rfl, ← List.map_take, isEmpty_map]
 rfl
def Cf.cut (c : Cf) : Cf := ⟨c.cores, c.syncs, c.lag, c.move, (c.res.take 8).isEmpty, c.res.take 8⟩
def Cf.def0 : Cf := ⟨2, 1, 1, 1, false, [0]⟩
def cfV (c : Cf) : Cf := if c.cut.ok then c.cut else Cf.def0
theorem config41 (c : Cf) : PureCall Tryz.prog 46 [eCf c] (.p (eCf c.cut)) := by
 have hm := maxLen_eq
 obtain ⟨f1, f2, f3⟩ := mn_facts 8 (c.res.map eI)
 have hlen : ((c.res.map eI).take 8).length ≤ 8 := by simp; omega
 have hA1 : (([] : List PV).length + ((c.res.map eI).take (if ((8 : Nat) : Int) < ((c.res.map eI).length : Int) then ((8 : Nat) : Int) else ((c.res.map eI).length : Int)).toNat).length) * 8 ≤ 140737488355328 := by rw [f3]; simp only [List.length_nil]; omega
 have hA2 : ([] : List PV).length + ((c.res.map eI).take (if ((8 : Nat) : Int) < ((c.res.map eI).length : Int) then ((8 : Nat) : Int) else ((c.res.map eI).length : Int)).toNat).length ≤ maxLen := by rw [f3]; simp only [List.length_nil]; omega
 refine Fn.run k46 rfl ?_
 generalize Tryz.prog = P at *
 (repeat' ((conv => whnf); first | exact trivial | with_reducible refine zX ?_ | refine ⟨rfl, ?_⟩ | refine ⟨_, rfl, ?_⟩ | with_reducible refine zP ?_ | with_reducible refine zL ?_ | refine ⟨fun _ => ?_, fun _ => ?_⟩ | refine zn ?_ | refine zb rfl ?_ | refine zX ?_ | refine zo rfl ?_ | refine zs ?_ | intro _)); all_goals (try (conv => whnf))
 rw [mn_take 8 8 rfl, ← List.map_take, isEmpty_map]
 rfl
theorem config19 (c : Cf) : PureCall Tryz.prog 16 [eCf c] (.p (eCf (cfV c))) := by
 have h1 := config41 c
 have h2 := config42 c.cut (by simp [Cf.cut]; omega)
 unfold cfV
 cases hok : c.cut.ok with
 | true =>
  rw [hok] at h2
  rw [if_pos rfl]
  generalize c.cut = d at *
  simp only [eCf] at *
  refine Fn.run k16 rfl ?_
  generalize Tryz.prog = P at *
  (repeat' ((conv => whnf); first | exact trivial | with_reducible refine zX ?_ | refine ⟨rfl, ?_⟩ | refine ⟨_, rfl, ?_⟩ | with_reducible refine zP ?_ | with_reducible refine zL ?_ | refine ⟨fun _ => ?_, fun _ => ?_⟩ | refine zn ?_ | refine zb rfl ?_ | refine zX ?_ | refine zo rfl ?_ | refine zs ?_ | intro _)); all_goals (try (conv => whnf))
  all_goals rfl
 | false =>
  rw [hok] at h2
  rw [if_neg (by decide)]
  generalize c.cut = d at *
  simp only [eCf] at *
  refine Fn.run k16 rfl ?_
  generalize Tryz.prog = P at *
  (repeat' ((conv => whnf); first | exact trivial | with_reducible refine zX ?_ | refine ⟨rfl, ?_⟩ | refine ⟨_, rfl, ?_⟩ | with_reducible refine zP ?_ | with_reducible refine zL ?_ | refine ⟨fun _ => ?_, fun _ => ?_⟩ | refine zn ?_ | refine zb rfl ?_ | refine zX ?_ | refine zo rfl ?_ | refine zs ?_ | intro _)); all_goals (try (conv => whnf))
  all_goals rfl
noncomputable def keep (l : List Ld) : List Ld := if fitsB (l.take 10) then l.take 10 else []
noncomputable def coreAt (ls : LL) (k : Nat) : List Ld := match ls[k]? with
 | some p => keep p.2
 | none => []
noncomputable def coresV (n : Nat) (ls : LL) : List (List Ld) := (List.range n).map (coreAt ls)
def eLd (x : List Ld) : Bool × List Ld := (x.isEmpty, x)
structure CoInv (n : Nat) (ls : LL) (i : Nat) (rows : List (List DV)) : Prop where
 len : rows.length = n
 at_ : ∀ k, k < n → ∃ d, rows[k]? = some [d] ∧ ((d = .ow 3 true [] ∧ (k < i → coreAt ls k = [])) ∨ d = .p (eC (eLd (coreAt ls k))))
theorem coInv_end {n : Nat} {ls : LL} {i : Nat} {rows : List (List DV)} (h : CoInv n ls i rows) (hi : n ≤ i ∨ ls.length ≤ i) : copiesR rows = (coresV n ls).map fun x => [DV.p (eC (eLd x))] := by
 rw [copiesR_eq]
 apply List.ext_getElem?
 intro k
 rw [List.getElem?_map, List.getElem?_map]
 by_cases hk : k < n
 ·obtain ⟨d, h1, h2⟩ := h.at_ k hk
  have e : (coresV n ls)[k]? = some (coreAt ls k) := by simp [coresV, hk]
  rw [h1, e]
  simp only [Option.map_some]
  rcases h2 with ⟨rfl, h2⟩ | rfl
  ·have : coreAt ls k = [] := by
    by_cases hki : k < i
    ·exact h2 hki
    ·have : ls[k]? = none := List.getElem?_eq_none (by omega)
     simp [coreAt, this]
   rw [this]; rfl
  ·rfl
 ·have e1 : rows[k]? = none := List.getElem?_eq_none (by rw [h.len]; omega)
  have e2 : (coresV n ls)[k]? = none := List.getElem?_eq_none (by simp [coresV]; omega)
  rw [e1, e2]; rfl
theorem coInv_step {n : Nat} {ls : LL} {i : Nat} {rows : List (List DV)} (h : CoInv n ls i rows) (hi : i < n) {v : DV} (hv : v = .p (eC (eLd (coreAt ls i)))) : CoInv n ls (i + 1) (setL rows i [v]) := by
 refine ⟨by rw [setL_length, h.len], fun k hk => ?_⟩
 obtain ⟨d, h1, h2⟩ := h.at_ k hk
 rw [getElem?_setL]
 by_cases e : k = i
 ·subst e; rw [if_pos rfl, h1]; exact ⟨v, rfl, .inr hv⟩
 ·rw [if_neg e]; exact ⟨d, h1, h2.imp (fun h => ⟨h.1, fun hk => h.2 (by omega)⟩) id⟩
theorem coInv_skip {n : Nat} {ls : LL} {i : Nat} {rows : List (List DV)} (h : CoInv n ls i rows) (he : coreAt ls i = []) : CoInv n ls (i + 1) rows := by
 refine ⟨h.len, fun k hk => ?_⟩
 obtain ⟨d, h1, h2⟩ := h.at_ k hk
 refine ⟨d, h1, h2.imp (fun h => ⟨h.1, fun hk => ?_⟩) id⟩
 by_cases e : k = i
 ·subst e; exact he
 ·exact h.2 (by omega)
theorem allPR_one {α : Type} (f : α → PV) (l : List α) : allPR (l.map fun x => [DV.p (f x)]) = true := by
 induction l with
 | nil => rfl
 | cons a l ih => simp [allPR, allP, DV.isP, ih]
theorem rowsP_one {α : Type} (f : α → PV) (l : List α) : rowsP false (l.map fun x => [DV.p (f x)]) = some (l.map f) := by
 induction l with
 | nil => rfl
 | cons a l ih => simp [rowsP, cellsP, ih]
theorem frz_bs {b : List (Option Box)} {k size n : Nat} {ag : Bool} {bx : Box} {rows : List PV} (hb : getB b k = some bx) (h : bx.live = false ∧ (ag = true ∨ size = 1) ∧ size = bx.size ∧ n = bx.rows.length)
  (hr : rowsP ag bx.rows = some rows) : DV.frz b (.bs k size ag 0 n) = some (.sl size false rows) := by
 simp only [DV.frz, hb]
 rw [if_pos ⟨h.1, h.2.1, h.2.2.1, trivial, h.2.2.2⟩, hr]
theorem frz_ok {b : List (Option Box)} {d : DV} {x : PV} {N : PV → Prop} (h : DV.frz b d = some x) (hn : N x) : (match DV.frz b d with | some x => N x | none => False) := by rw [h]; exact hn
theorem cores20 (c : Cf) (n : Nat) (hn : c.cores = n) (hn2 : n ≤ 1000) (nl : Bool) (ls : LL) : PureCall Tryz.prog 17 [eCf c, sLL nl ls] (.p (sLL false ((coresV n ls).map eLd))) := by
 have hm := maxLen_eq
 obtain ⟨cc, c1, c2, c3, c4, c5⟩ := c
 simp only at hn
 subst hn
 have hld := fun (p : Bool × List Ld) => loads39 p.1 p.2
 have hft := fun (p : Bool × List Ld) => fits34 (p.2.take 10).isEmpty (p.2.take 10)
 have g1 : (0 : Int) ≤ (n : Int) := by omega
 have g2 : (n : Int) * 24 ≤ 140737488355328 := by omega
 have g3 : (n : Int) ≤ maxLen := by omega
 refine Fn.run k17 rfl ?_
 generalize Tryz.prog = P at *
 (repeat' ((conv => whnf); first | exact trivial | with_reducible refine zX ?_ | refine ⟨rfl, ?_⟩ | refine ⟨_, rfl, ?_⟩ | with_reducible refine zP ?_ | with_reducible refine zL ?_ | refine ⟨fun _ => ?_, fun _ => ?_⟩ | refine zn ?_ | refine zb rfl ?_ | refine zX ?_ | refine zo rfl ?_ | refine zs ?_ | intro _)); all_goals (try (conv => whnf))
 refine loop_inv (fun m s => ∃ (i : Nat) (rows : List (List DV)), m + i = n ∧ CoInv n ls i rows ∧
  s = ⟨mkT 35 [(1, .p (sLL nl ls)), (2, .addr 0 5 0 0), (5, .bs 1 1 false 0 n), (6, .p (.int .i64 i))], [some (bCf ⟨n, c1, c2, c3, c4, c5⟩ true), some ⟨true, 1, rows, false⟩]⟩) n ?_ ?_
 ·conv => whnf
  refine ⟨0, List.replicate n [.ow 3 true []], rfl, ⟨by simp, fun k hk => ⟨.ow 3 true [], by simp [hk], .inl ⟨rfl, fun h => absurd h (Nat.not_lt_zero k)⟩⟩⟩, ?_⟩
  rfl
 ·rintro m st b N ⟨i, rows, hmi, hI, e⟩ hN
  cases e
  by_cases hlt : i < n ∧ i < ls.length
  ·obtain ⟨hl1, hl2⟩ := hlt
   have hrow : (ls.map eC)[i]? = some (sL ls[i].1 ls[i].2) := by simp [hl2, eC]
   have hb1 : decide ((i : Int) < (n : Int)) = true := lt_t hl1
   have hb := lt_t (n := (ls.map eC).length) (by simpa using hl2)
   have h1 := hld ls[i]
   have h2 := hft ls[i]
   obtain ⟨d, hd, _⟩ := hI.at_ i hl1
   have hd' : rows[0 + ((i : Int)).toNat]? = some [d] := by simpa using hd
   have hil : (i : Int) < (n : Int) := by omega
   have hca : coreAt ls i = keep ls[i].2 := by simp [coreAt, hl2]
   generalize ls[i] = p at *
   cases hfit : fitsB (p.2.take 10) with
   | true =>
    rw [hfit] at h2
    (repeat' ((conv => whnf); first | exact trivial | with_reducible refine zX ?_ | refine ⟨rfl, ?_⟩ | refine ⟨_, rfl, ?_⟩ | with_reducible refine zP ?_ | with_reducible refine zL ?_ | refine ⟨fun _ => ?_, fun _ => ?_⟩ | refine zn ?_ | refine zb rfl ?_ | refine zX ?_ | refine zo rfl ?_ | refine zs ?_ | intro _)); all_goals (try (conv => whnf))
    rw [next1 (n := n) hl1 (by omega)]
    refine hN (m - 1) _ (by omega) ⟨i + 1, _, by omega, coInv_step hI hl1 (v := .p (eC (eLd (p.2.take 10)))) ?_, ?_⟩
    ·rw [hca]; unfold keep; rw [if_pos hfit]
    ·simp only [Int.toNat_natCast, Nat.zero_add]
     rfl
   | false =>
    rw [hfit] at h2
    (repeat' ((conv => whnf); first | exact trivial | with_reducible refine zX ?_ | refine ⟨rfl, ?_⟩ | refine ⟨_, rfl, ?_⟩ | with_reducible refine zP ?_ | with_reducible refine zL ?_ | refine ⟨fun _ => ?_, fun _ => ?_⟩ | refine zn ?_ | refine zb rfl ?_ | refine zX ?_ | refine zo rfl ?_ | refine zs ?_ | intro _)); all_goals (try (conv => whnf))
    rw [next1 (n := n) hl1 (by omega)]
    refine hN (m - 1) _ (by omega) ⟨i + 1, rows, by omega, coInv_skip hI ?_, rfl⟩
    rw [hca]; unfold keep; rw [if_neg (by rw [hfit]; decide)]
  ·have hend := coInv_end hI (by omega)
   have hlen : (copiesR rows).length = n := by rw [hend]; simp [coresV]
   have hap : allPR (copiesR rows) = true := by rw [hend]; exact allPR_one _ _
   have hrp : rowsP false (copiesR rows) = some (((coresV n ls).map eLd).map eC) := by rw [hend, rowsP_one (fun x => eC (eLd x)), List.map_map]; rfl
   by_cases hl1 : i < n
   ·have hb1 : decide ((i : Int) < (n : Int)) = true := lt_t hl1
    have hb := lt_f (i := i) (n := (ls.map eC).length) (by simp; omega)
    (repeat' ((conv => whnf); first | exact trivial | with_reducible refine zX ?_ | refine ⟨rfl, ?_⟩ | refine ⟨_, rfl, ?_⟩ | with_reducible refine zP ?_ | with_reducible refine zL ?_ | refine ⟨fun _ => ?_, fun _ => ?_⟩ | refine zn ?_ | refine zb rfl ?_ | refine zX ?_ | refine zo rfl ?_ | refine zs ?_ | intro _)); all_goals (try (conv => whnf))
    all_goals (try refine And.intro hap ?_)
    all_goals exact frz_ok (frz_bs (k := 1) (size := 1) (n := n) (ag := false) (bx := ⟨false, 1, copiesR rows, false⟩) rfl ⟨rfl, .inr rfl, rfl, hlen.symm⟩ hrp) rfl
   ·have hb1 : decide ((i : Int) < (n : Int)) = false := lt_f hl1
    (repeat' ((conv => whnf); first | exact trivial | with_reducible refine zX ?_ | refine ⟨rfl, ?_⟩ | refine ⟨_, rfl, ?_⟩ | with_reducible refine zP ?_ | with_reducible refine zL ?_ | refine ⟨fun _ => ?_, fun _ => ?_⟩ | refine zn ?_ | refine zb rfl ?_ | refine zX ?_ | refine zo rfl ?_ | refine zs ?_ | intro _)); all_goals (try (conv => whnf))
    all_goals (try refine And.intro hap ?_)
    all_goals exact frz_ok (frz_bs (k := 1) (size := 1) (n := n) (ag := false) (bx := ⟨false, 1, copiesR rows, false⟩) rfl ⟨rfl, .inr rfl, rfl, hlen.symm⟩ hrp) rfl
end Go.Proofs.YtoepoghmeajocaaGreatDoor.Vc
namespace Go.Proofs.YtoepoghmeajocaaGreatDoor.Vc
open Go.RowKit Ma
theorem def0_ok : Cf.def0.ok = true := by decide
theorem cfV_ok (c : Cf) : (cfV c).ok = true := by
 unfold cfV
 split
 ·assumption
 ·exact def0_ok
theorem ok_head {c : Cf} (h : c.ok = true) : headR c ∧ c.res.length ≤ 6 := by
 unfold Cf.ok at h
 simp only [Bool.and_eq_true, decide_eq_true_eq] at h
 exact ⟨h.1, h.2.1⟩
theorem keep_len (l : List Ld) : (keep l).length ≤ 10 := by
 unfold keep
 split
 ·simp; omega
 ·simp
theorem keep_fits (l : List Ld) : fitsB (keep l) = true := by
 unfold keep
 split
 ·assumption
 ·rw [fitsB_iff]; exact ⟨by decide, .inl rfl⟩
theorem coreAt_len (ls : LL) (k : Nat) : (coreAt ls k).length ≤ 10 := by
 unfold coreAt
 split
 ·exact keep_len _
 ·simp
theorem coreAt_fits (ls : LL) (k : Nat) : fitsB (coreAt ls k) = true := by
 unfold coreAt
 split
 ·exact keep_fits _
 ·rw [fitsB_iff]; exact ⟨by decide, .inl rfl⟩
theorem coresV_len {n : Nat} {ls : LL} {y : List Ld} (h : y ∈ coresV n ls) : y.length ≤ 10 := by
 obtain ⟨k, _, rfl⟩ := List.mem_map.1 h
 exact coreAt_len _ _
theorem coresV_fits {n : Nat} {ls : LL} {y : List Ld} (h : y ∈ coresV n ls) : fitsB y = true := by
 obtain ⟨k, _, rfl⟩ := List.mem_map.1 h
 exact coreAt_fits _ _
theorem coresV_length (n : Nat) (ls : LL) : (coresV n ls).length = n := by simp [coresV]
theorem LLok_of {L : List (List Ld)} (h : ∀ y, y ∈ L → y.length ≤ 10) (hn : L.length ≤ 1000) : LLok (L.map eLd) := by
 refine ⟨fun p hp h1 => ?_, fun p hp => ?_, by simpa using hn⟩
 ·obtain ⟨y, _, rfl⟩ := List.mem_map.1 hp
  exact List.isEmpty_iff.1 h1
 ·obtain ⟨y, hy, rfl⟩ := List.mem_map.1 hp
  have := h y hy
  simp only [eLd]; omega
end Go.Proofs.YtoepoghmeajocaaGreatDoor.Vc
namespace Go.Proofs.YtoepoghmeajocaaGreatDoor.Vc
open Go.RowKit Ma
def eQ (p : Ma.Place) : PV := .agg [.int .i64 p.core, .int .i64 p.x]
def rQ (p : Ma.Place) : List DV := [.p (.int .i64 p.core), .p (.int .i64 p.x)]
def cmpV (a b : Int) : Int := if a < b then -1 else if a > b then 1 else 0
theorem cmpV_neg (a b : Int) : decide (cmpV a b < 0) = decide (a < b) := by
 unfold cmpV
 split
 ·rename_i h; simp [h]
 ·rename_i h; split <;> simp [h]
theorem nan94 (a : Int) : PureCall Tryz.prog 133 [.int .i64 a] (.p (.bool false)) := by
 refine Fn.run k133 rfl ?_
 generalize Tryz.prog = P at *
 (repeat' ((conv => whnf); first | exact trivial | with_reducible refine zX ?_ | refine ⟨rfl, ?_⟩ | refine ⟨_, rfl, ?_⟩ | with_reducible refine zP ?_ | with_reducible refine zL ?_ | refine ⟨fun _ => ?_, fun _ => ?_⟩ | refine zn ?_ | refine zb rfl ?_ | refine zX ?_ | refine zo rfl ?_ | refine zs ?_ | intro _)); all_goals (try (conv => whnf))
 all_goals exact bool_end (by simp)
theorem nan97 (a : Int) : PureCall Tryz.prog 136 [.int .i64 a] (.p (.bool false)) := by
 refine Fn.run k136 rfl ?_
 generalize Tryz.prog = P at *
 (repeat' ((conv => whnf); first | exact trivial | with_reducible refine zX ?_ | refine ⟨rfl, ?_⟩ | refine ⟨_, rfl, ?_⟩ | with_reducible refine zP ?_ | with_reducible refine zL ?_ | refine ⟨fun _ => ?_, fun _ => ?_⟩ | refine zn ?_ | refine zb rfl ?_ | refine zX ?_ | refine zo rfl ?_ | refine zs ?_ | intro _)); all_goals (try (conv => whnf))
 all_goals exact bool_end (by simp)
theorem cmp75 (a b : Int) : PureCall Tryz.prog 101 [.int .i64 a, .int .i64 b] (.p (.int .i64 (cmpV a b))) := by
 have h1 := nan94 a
 have h2 := nan94 b
 refine Fn.run k101 rfl ?_
 generalize Tryz.prog = P at *
 (repeat' ((conv => whnf); first | exact trivial | with_reducible refine zX ?_ | refine ⟨rfl, ?_⟩ | refine ⟨_, rfl, ?_⟩ | with_reducible refine zP ?_ | with_reducible refine zL ?_ | refine ⟨fun _ => ?_, fun _ => ?_⟩ | refine zn ?_ | refine zb rfl ?_ | refine zX ?_ | refine zo rfl ?_ | refine zs ?_ | intro _)); all_goals (try (conv => whnf))
 all_goals (refine int_end ?_; unfold cmpV; simp only [decide_eq_true_eq, decide_eq_false_iff_not] at *; repeat' split) <;> omega
theorem cmp78 (a b : Int) : PureCall Tryz.prog 104 [.int .i64 a, .int .i64 b] (.p (.int .i64 (cmpV a b))) := by
 have h1 := nan97 a
 have h2 := nan97 b
 refine Fn.run k104 rfl ?_
 generalize Tryz.prog = P at *
 (repeat' ((conv => whnf); first | exact trivial | with_reducible refine zX ?_ | refine ⟨rfl, ?_⟩ | refine ⟨_, rfl, ?_⟩ | with_reducible refine zP ?_ | with_reducible refine zL ?_ | refine ⟨fun _ => ?_, fun _ => ?_⟩ | refine zn ?_ | refine zb rfl ?_ | refine zX ?_ | refine zo rfl ?_ | refine zs ?_ | intro _)); all_goals (try (conv => whnf))
 all_goals (refine int_end ?_; unfold cmpV; simp only [decide_eq_true_eq, decide_eq_false_iff_not] at *; repeat' split) <;> omega
theorem byX74 (a b : Ma.Place) : PureCall Tryz.prog 100 [eQ a, eQ b] (.p (.int .i64 (cmpV b.x a.x))) := by
 have h1 := cmp75 b.x a.x
 refine Fn.run k100 rfl ?_
 generalize Tryz.prog = P at *
 (repeat' ((conv => whnf); first | exact trivial | with_reducible refine zX ?_ | refine ⟨rfl, ?_⟩ | refine ⟨_, rfl, ?_⟩ | with_reducible refine zP ?_ | with_reducible refine zL ?_ | refine ⟨fun _ => ?_, fun _ => ?_⟩ | refine zn ?_ | refine zb rfl ?_ | refine zX ?_ | refine zo rfl ?_ | refine zs ?_ | intro _)); all_goals (try (conv => whnf))
 all_goals exact int_end rfl
theorem byC77 (a b : Ma.Place) : PureCall Tryz.prog 103 [eQ a, eQ b] (.p (.int .i64 (cmpV a.core b.core))) := by
 have h1 := cmp78 a.core b.core
 refine Fn.run k103 rfl ?_
 generalize Tryz.prog = P at *
 (repeat' ((conv => whnf); first | exact trivial | with_reducible refine zX ?_ | refine ⟨rfl, ?_⟩ | refine ⟨_, rfl, ?_⟩ | with_reducible refine zP ?_ | with_reducible refine zL ?_ | refine ⟨fun _ => ?_, fun _ => ?_⟩ | refine zn ?_ | refine zb rfl ?_ | refine zX ?_ | refine zo rfl ?_ | refine zs ?_ | intro _)); all_goals (try (conv => whnf))
 all_goals exact int_end rfl
theorem allPR_Q (l : List Ma.Place) : allPR (l.map rQ) = true := by
 induction l with
 | nil => rfl
 | cons a l ih => simp [allPR, allP, rQ, DV.isP, ih]
theorem swapQ (X Y : List Ma.Place) (b e : Ma.Place) : setL (setL ((X ++ b :: e :: Y).map rQ) (X.length + 1) (rQ b)) X.length (rQ e) = (X ++ e :: b :: Y).map rQ := by
 induction X with
 | nil => rfl
 | cons x X ih => simp only [List.cons_append, List.map_cons, List.length_cons, setL]; rw [← ih]
theorem insert109 (lt : Ma.Place → Ma.Place → Bool) (f : FuncId) (cv : Ma.Place → Ma.Place → Int) (hf : ∀ a b, PureCall Tryz.prog f [eQ a, eQ b] (.p (.int .i64 (cv a b)))) (hlt : ∀ a b, decide (cv a b < 0) = lt a b) (l : List Ma.Place) (hl : l.length ≤ 1000) (ag : Bool) :
  MCall Tryz.prog 149 2 [.bs 0 2 ag 0 l.length, .p (.int .i64 0), .p (.int .i64 l.length), .p (.fn f [])] (l.map rQ) ((isort lt l).map rQ) (.tup []) := by
 have hm := maxLen_eq
 refine Fn.runM k149 rfl (allPR_Q _) (allPR_Q _) rfl (by decide) ?_
 generalize Tryz.prog = P at *
 (repeat' ((conv => whnf); first | exact trivial | with_reducible refine zX ?_ | refine ⟨rfl, ?_⟩ | refine ⟨_, rfl, ?_⟩ | with_reducible refine zP ?_ | with_reducible refine zL ?_ | refine ⟨fun _ => ?_, fun _ => ?_⟩ | refine zn ?_ | refine zb rfl ?_ | refine zX ?_ | refine zo rfl ?_ | refine zs ?_ | intro _)); all_goals (try (conv => whnf))
 refine loop_inv (fun m s => ∃ (i : Nat) (rows : List (List DV)), m = l.length - i ∧ 1 ≤ i ∧ i ≤ l.length + 1 ∧ rows = ((isRev lt (l.take i)).reverse ++ l.drop i).map rQ ∧
  s = ⟨mkT 53 [(0, .bs 0 2 ag 0 l.length), (1, .p (.int .i64 0)), (2, .p (.int .i64 l.length)), (3, .p (.fn f [])), (8, .p (.int .i64 i))], [some ⟨true, 2, rows, true⟩]⟩) (l.length - 1) ?_ ?_
 ·conv => whnf
  refine ⟨1, l.map rQ, rfl, Nat.le_refl _, by omega, ?_, rfl⟩
  cases l with
  | nil => rfl
  | cons a l => simp [isRev, insRev]
 ·rintro m st bb N ⟨i, rows, hmi, h1, h2, hrows, e⟩ hN
  cases e
  by_cases hlt2 : i < l.length
  ·have hb : decide ((i : Int) < (l.length : Int)) = true := lt_t hlt2
   (repeat' ((conv => whnf); first | exact trivial | with_reducible refine zX ?_ | refine ⟨rfl, ?_⟩ | refine ⟨_, rfl, ?_⟩ | with_reducible refine zP ?_ | with_reducible refine zL ?_ | refine ⟨fun _ => ?_, fun _ => ?_⟩ | refine zn ?_ | refine zb rfl ?_ | refine zX ?_ | refine zo rfl ?_ | refine zs ?_ | intro _)); all_goals (try (conv => whnf))
   refine loop_inv (fun m s => ∃ (rest ps : List Ma.Place) (rows : List (List DV)), m = rest.length ∧ ps.length + rest.length = i ∧ insRev lt l[i] (isRev lt (l.take i)) = ps ++ insRev lt l[i] rest ∧
    rows = ((rest.reverse ++ l[i] :: ps.reverse) ++ l.drop (i + 1)).map rQ ∧
    s = ⟨mkT 53 [(0, .bs 0 2 ag 0 l.length), (1, .p (.int .i64 0)), (2, .p (.int .i64 l.length)), (3, .p (.fn f [])), (8, .p (.int .i64 i)), (9, .p (.int .i64 rest.length))], [some ⟨true, 2, rows, true⟩]⟩) i ?_ ?_
   ·conv => whnf
    have hil : (isRev lt (l.take i)).length = i := by rw [(isRev_perm lt _).length_eq]; simp; omega
    refine ⟨isRev lt (l.take i), [], rows, hil.symm, by simpa using hil, rfl, ?_, ?_⟩
    ·rw [hrows, List.drop_eq_getElem_cons hlt2]; simp
    ·rw [hil]; rfl
   ·rintro m2 st2 bb2 N2 ⟨rest, ps, rows2, hm2, hps, hins, hrows2, e⟩ hN2
    cases e
    have hnext : (isRev lt (l.take (i + 1))) = ps ++ insRev lt l[i] rest := by
     rw [← hins, ← isRev_append, List.take_succ_eq_append_getElem hlt2]
    generalize hx : l[i] = x at *
    cases rest with
    | nil =>
     have d1 : decide ((([] : List Ma.Place).length : Int) > 0) = false := by decide
     (repeat' ((conv => whnf); first | exact trivial | with_reducible refine zX ?_ | refine ⟨rfl, ?_⟩ | refine ⟨_, rfl, ?_⟩ | with_reducible refine zP ?_ | with_reducible refine zL ?_ | refine ⟨fun _ => ?_, fun _ => ?_⟩ | refine zn ?_ | refine zb rfl ?_ | refine zX ?_ | refine zo rfl ?_ | refine zs ?_ | intro _)); all_goals (try (conv => whnf))
     rw [next1 (n := l.length) hlt2 (by omega)]
     refine hN (l.length - (i + 1)) _ (by omega) ⟨i + 1, rows2, rfl, by omega, by omega, ?_, rfl⟩
     rw [hrows2, hnext]; simp [insRev]
    | cons b rest =>
     have d1 : decide ((((b :: rest).length : Nat) : Int) > 0) = true := decide_eq_true (by simp only [List.length_cons]; omega)
     have hj : rest.length + 1 ≤ i := by simp at hps; omega
     have w1 : IntKind.wrap .i64 ((((b :: rest).length : Nat) : Int) - 1) = (rest.length : Int) := by rw [wrapE (by simp only [List.length_cons]; omega) (by simp only [List.length_cons]; omega)]; simp only [List.length_cons]; omega
     have e1 : (((b :: rest).length : Nat) : Int) < (l.length : Int) := by simp only [List.length_cons]; omega
     have e2 : (0 : Int) ≤ IntKind.wrap .i64 ((((b :: rest).length : Nat) : Int) - 1) := by rw [w1]; omega
     have e3 : IntKind.wrap .i64 ((((b :: rest).length : Nat) : Int) - 1) < (l.length : Int) := by rw [w1]; omega
     have r0 : rows2 = ((rest.reverse ++ b :: x :: ps.reverse) ++ l.drop (i + 1)).map rQ := by rw [hrows2]; simp
     have g1 : rows2[0 + (((b :: rest).length : Nat) : Int).toNat]? = some (rQ x) := by
      rw [r0, List.getElem?_map, Int.toNat_natCast, Nat.zero_add]
      simp
     have g2 : rows2[0 + (IntKind.wrap .i64 ((((b :: rest).length : Nat) : Int) - 1)).toNat]? = some (rQ b) := by
      rw [w1, r0, List.getElem?_map, Int.toNat_natCast, Nat.zero_add]
      simp
     have g3 : (setL rows2 (0 + (((b :: rest).length : Nat) : Int).toNat) (rQ b))[0 + (IntKind.wrap .i64 ((((b :: rest).length : Nat) : Int) - 1)).toNat]? = some (rQ b) := by
      rw [getElem?_setL, if_neg (by rw [w1]; simp only [Int.toNat_natCast, List.length_cons]; omega)]
      exact g2
     have hc := hf x b
     have hcl := hlt x b
     cases hl2 : lt x b with
     | true =>
      rw [hl2] at hcl
      (repeat' ((conv => whnf); first | exact trivial | with_reducible refine zX ?_ | refine ⟨rfl, ?_⟩ | refine ⟨_, rfl, ?_⟩ | with_reducible refine zP ?_ | with_reducible refine zL ?_ | refine ⟨fun _ => ?_, fun _ => ?_⟩ | refine zn ?_ | refine zb rfl ?_ | refine zX ?_ | refine zo rfl ?_ | refine zs ?_ | intro _)); all_goals (try (conv => whnf))
      rw [w1]
      refine hN2 rest.length _ (by rw [hm2]; simp) ⟨rest, ps ++ [b], _, rfl, by simp at hps ⊢; omega, ?_, ?_, rfl⟩
      ·rw [hins]; simp [insRev, hl2]
      ·have hsw := swapQ rest.reverse (ps.reverse ++ l.drop (i + 1)) b x
       simp only [List.length_reverse] at hsw
       simp only [Int.toNat_natCast, Nat.zero_add, List.length_cons]
       rw [r0]
       simp only [List.append_assoc, List.cons_append, List.reverse_append, List.reverse_cons, List.reverse_nil, List.nil_append] at hsw ⊢
       exact hsw
     | false =>
      rw [hl2] at hcl
      (repeat' ((conv => whnf); first | exact trivial | with_reducible refine zX ?_ | refine ⟨rfl, ?_⟩ | refine ⟨_, rfl, ?_⟩ | with_reducible refine zP ?_ | with_reducible refine zL ?_ | refine ⟨fun _ => ?_, fun _ => ?_⟩ | refine zn ?_ | refine zb rfl ?_ | refine zX ?_ | refine zo rfl ?_ | refine zs ?_ | intro _)); all_goals (try (conv => whnf))
      rw [next1 (n := l.length) hlt2 (by omega)]
      refine hN (l.length - (i + 1)) _ (by omega) ⟨i + 1, rows2, rfl, by omega, by omega, ?_, rfl⟩
      rw [hrows2, hnext]; simp [insRev, hl2]
  ·have hb : decide ((i : Int) < (l.length : Int)) = false := lt_f hlt2
   (repeat' ((conv => whnf); first | exact trivial | with_reducible refine zX ?_ | refine ⟨rfl, ?_⟩ | refine ⟨_, rfl, ?_⟩ | with_reducible refine zP ?_ | with_reducible refine zL ?_ | refine ⟨fun _ => ?_, fun _ => ?_⟩ | refine zn ?_ | refine zb rfl ?_ | refine zX ?_ | refine zo rfl ?_ | refine zs ?_ | intro _)); all_goals (try (conv => whnf))
   refine ⟨?_, rfl⟩
   show some (⟨true, 2, rows, true⟩ : Box) = _
   rw [hrows, List.take_of_length_le (by omega), List.drop_of_length_le (by omega), List.append_nil]
   rfl
end Go.Proofs.YtoepoghmeajocaaGreatDoor.Vc
