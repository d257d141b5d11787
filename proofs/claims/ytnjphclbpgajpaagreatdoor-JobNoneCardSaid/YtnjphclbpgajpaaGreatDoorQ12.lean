/- Part of a proof over a Go program: MaFit, MaMost, Ca, Cb, Fn1, MaSort, MaWin, MaPlan, MaPick, Cc, Cd, Rd, Ent, VcTr, Ft, Fu. No condition. -/
import Derived.Test.YtnjphclbpgajpaaGreatDoorQ11
import Derived.Test.YtnjphclbpgajpaaGreatDoorQ10
import Derived.Test.YtnjphclbpgajpaaGreatDoorProg
import Derived.Test.YtnjphclbpgajpaaGreatDoorQ01
import Derived.Test.YtnjphclbpgajpaaGreatDoorChecked
import Derived.ProofKit
import Derived.LaidMore
import Derived.OpenShut
import Derived.Stop.Joined
import Derived.Lay
import Derived.SevenTiedAt
import Derived.Test.YtnjphclbpgajpaaGreatDoorRows
set_option linter.unnecessarySimpa false
set_option linter.unusedSectionVars false
set_option linter.unusedSimpArgs false
set_option linter.unusedVariables false
set_option maxHeartbeats 4000000
set_option maxRecDepth 100000
namespace Go.Proofs.YtnjphclbpgajpaaGreatDoor.Ma
open Classical in
noncomputable def timeV (l : List Ld) : Int × Bool :=
 if mayL l = false then (0, false) else if l = [] then (0, true) else if h : ∃ e, Busy l e then (h.choose, true) else (0, false)
theorem timeV_bad {l : List Ld} (h : mayL l = false) : timeV l = (0, false) := by unfold timeV; rw [if_pos h]
theorem timeV_nil : timeV [] = (0, true) := by
 have : mayL [] = true := by decide
 unfold timeV; rw [if_neg (by rw [this]; decide), if_pos rfl]
theorem timeV_busy {l : List Ld} (h : mayL l = true) (hn : l ≠ []) {e : Int} (hb : Busy l e) : timeV l = (e, true) := by
 have hx : ∃ e, Busy l e := ⟨e, hb⟩
 unfold timeV
 rw [if_neg (by rw [h]; decide), if_neg hn, dif_pos hx, hx.choose_spec.uniq hb]
theorem timeV_none {l : List Ld} (h : mayL l = true) (hn : l ≠ []) (hb : ¬ ∃ e, Busy l e) : timeV l = (0, false) := by
 unfold timeV
 rw [if_neg (by rw [h]; decide), if_neg hn, dif_neg hb]
theorem timeV_ok {l : List Ld} (h : (timeV l).2 = true) : mayL l = true ∧ ((l = [] ∧ (timeV l).1 = 0) ∨ (l ≠ [] ∧ Busy l (timeV l).1)) := by
 cases hm : mayL l with
 | false => rw [timeV_bad hm] at h; cases h
 | true =>
  refine ⟨rfl, ?_⟩
  by_cases hn : l = []
  ·subst hn; exact .inl ⟨rfl, by rw [timeV_nil]⟩
  ·by_cases hb : ∃ e, Busy l e
   ·obtain ⟨e, he⟩ := hb
    rw [timeV_busy hm hn he]
    exact .inr ⟨hn, he⟩
   ·rw [timeV_none hm hn hb] at h; cases h
theorem timeV_range (l : List Ld) : 0 ≤ (timeV l).1 ∧ (timeV l).1 ≤ 20000 := by
 cases h : (timeV l).2 with
 | true =>
  rcases (timeV_ok h).2 with ⟨_, e⟩ | ⟨_, hb⟩
  ·omega
  ·have := hb.lo; have := hb.hi; omega
 | false =>
  unfold timeV at *
  split at h <;> rename_i h1
  ·rw [if_pos h1]; simp
  ·rw [if_neg h1]
   split at h <;> rename_i h2
   ·cases h
   ·rw [if_neg h2]
    split at h <;> rename_i h3
    ·cases h
    ·rw [dif_neg h3]; simp
structure Seek (l : List Ld) (t : Int) : Prop where
 may : mayL l = true
 one : l ≠ []
 lo : 1 ≤ t
 up : t ≤ 20000 → t ≤ asked l t
 low : ∀ e, Busy l e → t ≤ e
theorem Seek.start {l : List Ld} (h : mayL l = true) (hn : l ≠ []) : Seek l 1 := ⟨h, hn, Int.le_refl _, fun _ => asked_pos h hn (Int.le_refl _) (by omega), fun _ he => he.lo⟩
theorem Seek.found {l : List Ld} {t : Int} (h : Seek l t) (ht : t ≤ 20000) (he : asked l t = t) : timeV l = (t, true) := by
 refine timeV_busy h.may h.one ⟨h.lo, ht, he, fun s h1 h2 hs => ?_⟩
 obtain ⟨e, he, hle⟩ := busy_of_le h.may h.one h1 (by omega) (by omega)
 have := h.low e he
 omega
theorem Seek.next {l : List Ld} {t : Int} (h : Seek l t) (ht : t ≤ 20000) (hne : asked l t ≠ t) : Seek l (asked l t) ∧ t < asked l t := by
 have h1 := h.up ht
 have h2 := h.lo
 exact ⟨⟨h.may, h.one, by omega, fun _ => asked_mono h.may h1, fun e he => by have := asked_mono h.may (h.low e he); have := he.eq; omega⟩, by omega⟩
theorem Seek.never {l : List Ld} {t : Int} (h : Seek l t) (ht : ¬ t ≤ 20000) : timeV l = (0, false) :=
 timeV_none h.may h.one fun ⟨e, he⟩ => by have := h.low e he; have := he.hi; omega
structure OverAt (l : List Ld) (e t : Int) : Prop where
 lo : 1 ≤ t
 hi : t ≤ e
 over : t < dueL l t
 first : ∀ s, 1 ≤ s → s < t → dueL l s ≤ s
theorem OverAt.uniq {l : List Ld} {e t t' : Int} (h : OverAt l e t) (h' : OverAt l e t') : t = t' := by
 rcases Int.lt_trichotomy t t' with hlt | heq | hgt
 ·have := h'.first t h.lo hlt; have := h.over; omega
 ·exact heq
 ·have := h.first t' h'.lo hgt; have := h'.over; omega
open Classical in
noncomputable def firstV (l : List Ld) (e : Int) : Int := if h : ∃ t, OverAt l e t then h.choose else 0
theorem firstV_at {l : List Ld} {e t : Int} (h : OverAt l e t) : firstV l e = t := by
 have hx : ∃ t, OverAt l e t := ⟨t, h⟩
 unfold firstV; rw [dif_pos hx]; exact hx.choose_spec.uniq h
theorem firstV_none {l : List Ld} {e : Int} (h : ∀ t, 1 ≤ t → t ≤ e → dueL l t ≤ t) : firstV l e = 0 := by
 unfold firstV; rw [dif_neg fun ⟨t, ht⟩ => by have := h t ht.lo ht.hi; have := ht.over; omega]
theorem firstV_cases (l : List Ld) (e : Int) : OverAt l e (firstV l e) ∨ (firstV l e = 0 ∧ ∀ t, 1 ≤ t → t ≤ e → dueL l t ≤ t) := by
 by_cases hx : ∃ t, OverAt l e t
 ·obtain ⟨t, ht⟩ := hx; rw [firstV_at ht]; exact .inl ht
 ·refine .inr ⟨by unfold firstV; rw [dif_neg hx], fun t h1 h2 => ?_⟩
  obtain ⟨n, rfl⟩ := Int.eq_ofNat_of_zero_le (show 0 ≤ t by omega)
  induction n using Nat.strongRecOn with
  | ind n ih =>
   refine Int.not_lt.1 fun hlt => hx ⟨n, h1, h2, hlt, fun s s1 s2 => ?_⟩
   obtain ⟨m, rfl⟩ := Int.eq_ofNat_of_zero_le (show 0 ≤ s by omega)
   exact ih m (by omega) s1 (by omega)
theorem fitsB_eq (l : List Ld) : fitsB l = ((timeV l).2 && decide (firstV l (timeV l).1 = 0)) := by
 rw [Bool.eq_iff_iff, fitsB_iff, Bool.and_eq_true, decide_eq_true_eq]
 constructor
 ·rintro ⟨h1, rfl | ⟨e, he, hd⟩⟩
  ·rw [timeV_nil]; exact ⟨rfl, firstV_none fun t h1 h2 => by simp only at h2; omega⟩
  ·have hn : l ≠ [] := fun e0 => by
    subst e0
    have h2 := he.eq; have := he.lo
    simp only [asked, sumL] at h2; omega
   rw [timeV_busy h1 hn he]
   exact ⟨rfl, firstV_none hd⟩
 ·rintro ⟨h1, h2⟩
  obtain ⟨h3, h4⟩ := timeV_ok h1
  refine ⟨h3, ?_⟩
  rcases h4 with ⟨rfl, _⟩ | ⟨_, hb⟩
  ·exact .inl rfl
  ·refine .inr ⟨_, hb, ?_⟩
   rcases firstV_cases l (timeV l).1 with h | h
   ·have := h.lo; omega
   ·exact h.2
structure Look (l : List Ld) (e first : Int) (seen : Ld → Int → Prop) : Prop where
 may : mayL l = true
 fst : first = e + 1 ∨ (1 ≤ first ∧ first ≤ e ∧ first < dueL l first)
 ok : ∀ x, x ∈ l → ∀ k : Int, 0 ≤ k → seen x k → x.d + k * x.t < first → dueL l (x.d + k * x.t) ≤ x.d + k * x.t
theorem Look.end {l : List Ld} {e first : Int} {seen : Ld → Int → Prop} (h : Look l e first seen) (hs : ∀ x, x ∈ l → ∀ k, 0 ≤ k → x.d + k * x.t < first → seen x k) : firstV l e = if first > e then 0 else first := by
 have hd : ∀ t, 0 ≤ t → t < first → dueL l t ≤ t := due_le_of h.may fun x hx k hk hlt => h.ok x hx k hk (hs x hx k hk hlt) hlt
 rcases h.fst with h1 | ⟨h1, h2, h3⟩
 ·rw [if_pos (by omega)]
  exact firstV_none fun t t1 t2 => hd t (by omega) (by omega)
 ·rw [if_neg (by omega)]
  exact firstV_at ⟨h1, h2, h3, fun s s1 s2 => hd s (by omega) s2⟩
end Go.Proofs.YtnjphclbpgajpaaGreatDoor.Ma
namespace Go.Proofs.YtnjphclbpgajpaaGreatDoor.Ma
noncomputable def fitW (l : List Ld) (c d t : Int) : Bool := fitsB (l ++ [⟨c, d, t⟩])
theorem fitW_less {l : List Ld} {c c' d t : Int} (h : fitW l c d t = true) (h1 : 1 ≤ c') (h2 : c' ≤ c) : fitW l c' d t = true := by
 unfold fitW at *
 rw [fitsB_iff] at *
 exact h.less h1 h2
noncomputable def mayM (l : List Ld) (d t : Int) : Bool := decide (l.length ≤ 23) && (decide (1 ≤ d) && (decide (d ≤ t) && (decide (t ≤ 200) && fitsB l)))
noncomputable def mostDown (l : List Ld) (d t : Int) : Nat → Int
 | 0 => 0
 | n + 1 => if fitW l (n + 1 : Int) d t then (n + 1 : Int) else mostDown l d t n
theorem mostDown_spec (l : List Ld) (d t : Int) (n : Nat) : 0 ≤ mostDown l d t n ∧ mostDown l d t n ≤ n ∧ (mostDown l d t n ≠ 0 → fitW l (mostDown l d t n) d t = true) ∧ ∀ c, mostDown l d t n < c → c ≤ n → fitW l c d t = false := by
 induction n with
 | zero => simp only [mostDown]; exact ⟨by omega, by omega, fun h => absurd rfl h, fun c h1 h2 => by omega⟩
 | succ n ih =>
  simp only [mostDown]
  split
  ·rename_i h
   exact ⟨by omega, by omega, fun _ => h, fun c h1 h2 => by omega⟩
  ·rename_i h
   refine ⟨ih.1, by omega, ih.2.2.1, fun c h1 h2 => ?_⟩
   by_cases hc : c = (n + 1 : Int)
   ·subst hc; simpa using h
   ·exact ih.2.2.2 c h1 (by omega)
noncomputable def mostV (l : List Ld) (d t m : Int) : Int := if mayM l d t then mostDown l d t (min m d).toNat else 0
noncomputable def tightUp (l : List Ld) (t : Int) : Nat → Int → Int
 | 0, c => c
 | n + 1, c => if fitW l (c + 1) (c + 1) t then tightUp l t n (c + 1) else c
noncomputable def tightV (l : List Ld) (t m : Int) : Int := if mayM l t t then tightUp l t (min m t).toNat 0 else 0
end Go.Proofs.YtnjphclbpgajpaaGreatDoor.Ma
namespace Go.Proofs.YtnjphclbpgajpaaGreatDoor.Vc
open Go.RowKit Ma
def eL (x : Ld) : PV := .agg [.int .i64 x.c, .int .i64 x.d, .int .i64 x.t]
def sL (nl : Bool) (l : List Ld) : PV := .sl 3 nl (l.map eL)
theorem bool_end {a b : Bool} (h : a = b) : resOf [TV.p (.bool a)] = DV.p (.bool b) := by subst h; rfl
theorem int_end {a b : Int} (h : a = b) : resOf [TV.p (.int .i64 a)] = DV.p (.int .i64 b) := by subst h; rfl
theorem lt_t {i n : Nat} (h : i < n) : decide ((i : Int) < (n : Int)) = true := by simp [h]
theorem lt_f {i n : Nat} (h : ¬ i < n) : decide ((i : Int) < (n : Int)) = false := by simp; omega
theorem next1 {i : Nat} {n : Nat} (h : i < n) (hn : n ≤ maxLen) : IntKind.wrap .i64 ((i : Int) + 1) = ((i + 1 : Nat) : Int) := by
 have : maxLen = 9223372036854775807 := by decide
 rw [wrapE (by omega) (by omega)]; omega
theorem in65 (n a b : Int) : PureCall Tryz.prog 77 [.int .i64 n, .int .i64 a, .int .i64 b] (.p (.bool (decide (a ≤ n) && decide (n ≤ b)))) := by
 refine Fn.run k77 rfl ?_
 generalize Tryz.prog = P
 (repeat' ((conv => whnf); first | exact trivial | with_reducible refine zX ?_ | refine ⟨rfl, ?_⟩ | refine ⟨_, rfl, ?_⟩ | with_reducible refine zP ?_ | with_reducible refine zL ?_ | refine ⟨fun _ => ?_, fun _ => ?_⟩ | refine zn ?_ | refine zb rfl ?_ | refine zX ?_ | refine zo rfl ?_ | refine zs ?_ | intro _)); all_goals (try (conv => whnf))
 all_goals (refine bool_end (Bool.eq_iff_iff.2 ?_); simp only [Bool.and_eq_true, Bool.or_eq_true, Bool.and_eq_false_iff, Bool.or_eq_false_iff, decide_eq_true_eq, decide_eq_false_iff_not, Bool.not_eq_true', Bool.not_eq_false', Bool.false_eq_true, Bool.true_eq_false, Bool.not_true, Bool.not_false, ge_iff_le, gt_iff_lt] at *; first | done | omega | (simp only [false_iff]; omega) | (simp only [true_iff]; omega) | grind)
theorem within68 (n a b : Int) : PureCall Tryz.prog 126 [.int .i64 n, .int .i64 a, .int .i64 b] (.p (.bool (decide (a ≤ n) && decide (n ≤ b)))) := by
 refine Fn.run k126 rfl ?_
 generalize Tryz.prog = P
 (repeat' ((conv => whnf); first | exact trivial | with_reducible refine zX ?_ | refine ⟨rfl, ?_⟩ | refine ⟨_, rfl, ?_⟩ | with_reducible refine zP ?_ | with_reducible refine zL ?_ | refine ⟨fun _ => ?_, fun _ => ?_⟩ | refine zn ?_ | refine zb rfl ?_ | refine zX ?_ | refine zo rfl ?_ | refine zs ?_ | intro _)); all_goals (try (conv => whnf))
 all_goals (refine bool_end (Bool.eq_iff_iff.2 ?_); simp only [Bool.and_eq_true, Bool.or_eq_true, Bool.and_eq_false_iff, Bool.or_eq_false_iff, decide_eq_true_eq, decide_eq_false_iff_not, Bool.not_eq_true', Bool.not_eq_false', Bool.false_eq_true, Bool.true_eq_false, Bool.not_true, Bool.not_false, ge_iff_le, gt_iff_lt] at *; first | done | omega | (simp only [false_iff]; omega) | (simp only [true_iff]; omega) | grind)
theorem load106 (x : Ld) : PureCall Tryz.prog 234 [eL x] (.p (.bool x.ok)) := by
 have h := within68 x.c 1 20000
 refine Fn.run k234 rfl ?_
 generalize Tryz.prog = P at *
 (repeat' ((conv => whnf); first | exact trivial | with_reducible refine zX ?_ | refine ⟨rfl, ?_⟩ | refine ⟨_, rfl, ?_⟩ | with_reducible refine zP ?_ | with_reducible refine zL ?_ | refine ⟨fun _ => ?_, fun _ => ?_⟩ | refine zn ?_ | refine zb rfl ?_ | refine zX ?_ | refine zo rfl ?_ | refine zs ?_ | intro _)); all_goals (try (conv => whnf))
 all_goals (refine bool_end (Bool.eq_iff_iff.2 ?_); simp only [Ld.ok_iff, Bool.and_eq_true, Bool.or_eq_true, Bool.and_eq_false_iff, Bool.or_eq_false_iff, decide_eq_true_eq, decide_eq_false_iff_not, Bool.not_eq_true', Bool.not_eq_false', Bool.false_eq_true, Bool.true_eq_false, Bool.not_true, Bool.not_false, ge_iff_le, gt_iff_lt] at *; first | done | omega | (simp only [false_iff]; omega) | (simp only [true_iff]; omega) | grind)
theorem load120 (x : Ld) : PureCall Tryz.prog 74 [eL x] (.p (.bool x.ok)) := by
 have h := in65 x.c 1 20000
 refine Fn.run k74 rfl ?_
 generalize Tryz.prog = P at *
 (repeat' ((conv => whnf); first | exact trivial | with_reducible refine zX ?_ | refine ⟨rfl, ?_⟩ | refine ⟨_, rfl, ?_⟩ | with_reducible refine zP ?_ | with_reducible refine zL ?_ | refine ⟨fun _ => ?_, fun _ => ?_⟩ | refine zn ?_ | refine zb rfl ?_ | refine zX ?_ | refine zo rfl ?_ | refine zs ?_ | intro _)); all_goals (try (conv => whnf))
 all_goals (refine bool_end (Bool.eq_iff_iff.2 ?_); simp only [Ld.ok_iff, Bool.and_eq_true, Bool.or_eq_true, Bool.and_eq_false_iff, Bool.or_eq_false_iff, decide_eq_true_eq, decide_eq_false_iff_not, Bool.not_eq_true', Bool.not_eq_false', Bool.false_eq_true, Bool.true_eq_false, Bool.not_true, Bool.not_false, ge_iff_le, gt_iff_lt] at *; first | done | omega | (simp only [false_iff]; omega) | (simp only [true_iff]; omega) | grind)
theorem bad105 (x : Ld) : PureCall Tryz.prog 233 [eL x] (.p (.bool !x.ok)) := by
 have h := load106 x
 refine Fn.run k233 rfl ?_
 generalize Tryz.prog = P at *
 (repeat' ((conv => whnf); first | exact trivial | with_reducible refine zX ?_ | refine ⟨rfl, ?_⟩ | refine ⟨_, rfl, ?_⟩ | with_reducible refine zP ?_ | with_reducible refine zL ?_ | refine ⟨fun _ => ?_, fun _ => ?_⟩ | refine zn ?_ | refine zb rfl ?_ | refine zX ?_ | refine zo rfl ?_ | refine zs ?_ | intro _)); all_goals (try (conv => whnf))
 all_goals exact bool_end rfl
theorem bad107 (x : Ld) : PureCall Tryz.prog 235 [eL x] (.p (.bool !x.ok)) := by
 have h := load106 x
 refine Fn.run k235 rfl ?_
 generalize Tryz.prog = P at *
 (repeat' ((conv => whnf); first | exact trivial | with_reducible refine zX ?_ | refine ⟨rfl, ?_⟩ | refine ⟨_, rfl, ?_⟩ | with_reducible refine zP ?_ | with_reducible refine zL ?_ | refine ⟨fun _ => ?_, fun _ => ?_⟩ | refine zn ?_ | refine zb rfl ?_ | refine zX ?_ | refine zo rfl ?_ | refine zs ?_ | intro _)); all_goals (try (conv => whnf))
 all_goals exact bool_end rfl
def idxFrom {α : Type} (p : α → Bool) : List α → Int → Int
 | [], _ => -1
 | x :: xs, k => if p x then k else idxFrom p xs (k + 1)
theorem idxFrom_any {α : Type} {p : α → Bool} {l : List α} : ∀ {k : Int}, 0 ≤ k → (decide (0 ≤ idxFrom p l k) = l.any p) := by
 induction l with
 | nil => intro k _; simp [idxFrom]
 | cons x xs ih =>
  intro k hk
  simp only [idxFrom, List.any_cons]
  split
  ·rename_i h; simp [h, hk]
  ·rename_i h; simp [h, ih (show 0 ≤ k + 1 by omega)]
theorem index126 (nl : Bool) (l : List Ld) (f : FuncId) (caps : List PV) (p : Ld → Bool) (hp : ∀ x, x ∈ l → PureCall Tryz.prog f ([eL x] ++ caps) (.p (.bool (p x)))) :
  PureCall Tryz.prog 247 [sL nl l, .fn f caps] (.p (.int .i64 (idxFrom p l 0))) := by
 refine Fn.run k247 rfl ?_
 generalize Tryz.prog = P at *
 (repeat' ((conv => whnf); first | exact trivial | with_reducible refine zX ?_ | refine ⟨rfl, ?_⟩ | refine ⟨_, rfl, ?_⟩ | with_reducible refine zP ?_ | with_reducible refine zL ?_ | refine ⟨fun _ => ?_, fun _ => ?_⟩ | refine zn ?_ | refine zb rfl ?_ | refine zX ?_ | refine zo rfl ?_ | refine zs ?_ | intro _)); all_goals (try (conv => whnf))
 rename_i hlen
 refine loop_inv (fun n s => ∃ i : Nat, n + i = l.length ∧ idxFrom p (l.drop i) i = idxFrom p l 0 ∧ s = ⟨mkT 19 [(0, .p (sL nl l)), (1, .p (.fn f caps)), (7, .p (.int .i64 (l.map eL).length)), (8, .p (.int .i64 i))], []⟩) l.length ?_ ?_
 ·conv => whnf
  exact ⟨0, rfl, rfl, rfl⟩
 ·rintro n t b N ⟨i, hi, hI, e⟩ hN
  cases e
  by_cases hlt : i < l.length
  ·have hrow : (l.map eL)[i]? = some (eL l[i]) := by simp [hlt]
   have hb := lt_t (n := (l.map eL).length) (by simpa using hlt)
   have hc := hp l[i] (List.getElem_mem _)
   rw [List.drop_eq_getElem_cons hlt] at hI
   simp only [idxFrom] at hI
   (repeat' ((conv => whnf); first | exact trivial | with_reducible refine zX ?_ | refine ⟨rfl, ?_⟩ | refine ⟨_, rfl, ?_⟩ | with_reducible refine zP ?_ | with_reducible refine zL ?_ | refine ⟨fun _ => ?_, fun _ => ?_⟩ | refine zn ?_ | refine zb rfl ?_ | refine zX ?_ | refine zo rfl ?_ | refine zs ?_ | intro _)); all_goals (try (conv => whnf))
   ·rename_i e; rw [if_pos e] at hI; exact int_end hI
   ·rename_i e
    rw [next1 (by simpa using hlt) hlen]
    rw [if_neg (by rw [e]; decide)] at hI
    exact hN (n - 1) _ (by omega) ⟨i + 1, by omega, hI, rfl⟩
  ·have hb := lt_f (n := (l.map eL).length) (by simpa using hlt)
   (repeat' ((conv => whnf); first | exact trivial | with_reducible refine zX ?_ | refine ⟨rfl, ?_⟩ | refine ⟨_, rfl, ?_⟩ | with_reducible refine zP ?_ | with_reducible refine zL ?_ | refine ⟨fun _ => ?_, fun _ => ?_⟩ | refine zn ?_ | refine zb rfl ?_ | refine zX ?_ | refine zo rfl ?_ | refine zs ?_ | intro _)); all_goals (try (conv => whnf))
   rw [List.drop_of_length_le (by omega)] at hI
   exact int_end hI
theorem any104 (nl : Bool) (l : List Ld) (f : FuncId) (caps : List PV) (p : Ld → Bool) (hp : ∀ x, x ∈ l → PureCall Tryz.prog f ([eL x] ++ caps) (.p (.bool (p x)))) :
  PureCall Tryz.prog 232 [sL nl l, .fn f caps] (.p (.bool (l.any p))) := by
 have h := index126 nl l f caps p hp
 refine Fn.run k232 rfl ?_
 generalize Tryz.prog = P at *
 (repeat' ((conv => whnf); first | exact trivial | with_reducible refine zX ?_ | refine ⟨rfl, ?_⟩ | refine ⟨_, rfl, ?_⟩ | with_reducible refine zP ?_ | with_reducible refine zL ?_ | refine ⟨fun _ => ?_, fun _ => ?_⟩ | refine zn ?_ | refine zb rfl ?_ | refine zX ?_ | refine zo rfl ?_ | refine zs ?_ | intro _)); all_goals (try (conv => whnf))
 all_goals exact bool_end (idxFrom_any (Int.le_refl 0))
theorem may87 (nl : Bool) (l : List Ld) : PureCall Tryz.prog 209 [sL nl l] (.p (.bool (mayL l))) := by
 have h := any104 nl l 233 [] (fun x => !x.ok) fun x _ => bad105 x
 refine Fn.run k209 rfl ?_
 generalize Tryz.prog = P at *
 (repeat' ((conv => whnf); first | exact trivial | with_reducible refine zX ?_ | refine ⟨rfl, ?_⟩ | refine ⟨_, rfl, ?_⟩ | with_reducible refine zP ?_ | with_reducible refine zL ?_ | refine ⟨fun _ => ?_, fun _ => ?_⟩ | refine zn ?_ | refine zb rfl ?_ | refine zX ?_ | refine zo rfl ?_ | refine zs ?_ | intro _)); all_goals (try (conv => whnf))
 ·rename_i e
  refine bool_end ?_
  unfold mayL
  simp only [List.length_map, decide_eq_true_eq] at e
  have e' : l.length ≤ 24 := by omega
  simp [e', List.all_eq_not_any_not]
 ·rename_i e
  refine bool_end ?_
  unfold mayL
  simp only [List.length_map, Bool.not_true, decide_eq_false_iff_not] at e
  have e' : ¬ l.length ≤ 24 := by omega
  simp [e']
theorem up_law {a b : Int} (ha : 1 ≤ a) (hb : 1 ≤ b) : (if 0 < a.tmod b then a.tdiv b + 1 else a.tdiv b) = (a - 1) / b + 1 := by
 rw [Int.tdiv_eq_ediv_of_nonneg (by omega), Int.tmod_eq_emod_of_nonneg (by omega)]
 have e1 := Int.mul_ediv_add_emod a b
 have h1 := Int.emod_nonneg a (show b ≠ 0 by omega)
 have h2 := Int.emod_lt_of_pos a (show 0 < b by omega)
 split
 ·have : a - 1 = (a % b - 1) + b * (a / b) := by omega
  rw [this, Int.add_mul_ediv_left _ _ (by omega), Int.ediv_eq_zero_of_lt (a := a % b - 1) (b := b) (by omega) (by omega)]; omega
 ·have : a - 1 = (b - 1) + b * (a / b - 1) := by rw [Int.mul_sub]; omega
  rw [this, Int.add_mul_ediv_left _ _ (by omega), Int.ediv_eq_zero_of_lt (a := b - 1) (b := b) (by omega) (by omega)]; omega
theorem up103 (a b : Int) (ha : 1 ≤ a) (ha2 : a ≤ 20000) (hb : 1 ≤ b) : PureCall Tryz.prog 196 [.int .i64 a, .int .i64 b] (.p (.int .i64 ((a - 1) / b + 1))) := by
 have hl := up_law ha hb
 have hq : 0 ≤ a.tdiv b ∧ a.tdiv b ≤ a := by
  rw [Int.tdiv_eq_ediv_of_nonneg (by omega)]
  exact ⟨Int.ediv_nonneg (by omega) (by omega), Int.ediv_le_self _ (by omega)⟩
 have hb0 : decide (b ≤ 0) = false := decide_eq_false (by omega)
 have hbn : b ≠ 0 := by omega
 refine Fn.run k196 rfl ?_
 generalize Tryz.prog = P at *
 (repeat' ((conv => whnf); first | exact trivial | with_reducible refine zX ?_ | refine ⟨rfl, ?_⟩ | refine ⟨_, rfl, ?_⟩ | with_reducible refine zP ?_ | with_reducible refine zL ?_ | refine ⟨fun _ => ?_, fun _ => ?_⟩ | refine zn ?_ | refine zb rfl ?_ | refine zX ?_ | refine zo rfl ?_ | refine zs ?_ | intro _)); all_goals (try (conv => whnf))
 ·rename_i e
  refine int_end ?_
  rw [wrapE (n := a.tdiv b) (by omega) (by omega), wrapE (by omega) (by omega), ← hl, if_pos (of_decide_eq_true e)]
 ·rename_i e
  refine int_end ?_
  rw [wrapE (n := a.tdiv b) (by omega) (by omega), ← hl, if_neg (of_decide_eq_false e)]
theorem asked88 (nl : Bool) (l : List Ld) (t : Int) (hl : mayL l = true) (h1 : 1 ≤ t) (h2 : t ≤ 20000) : PureCall Tryz.prog 210 [sL nl l, .int .i64 t] (.p (.int .i64 (asked l t))) := by
 have hm := may87 nl l
 rw [hl] at hm
 have hup := fun b hb => up103 t b h1 h2 hb
 have ht0 : decide (t < 0) = false := decide_eq_false (by omega)
 have ht1 : decide (t > 20000) = false := decide_eq_false (by omega)
 have hl' := mayL_iff.1 hl
 refine Fn.run k210 rfl ?_
 generalize Tryz.prog = P at *
 (repeat' ((conv => whnf); first | exact trivial | with_reducible refine zX ?_ | refine ⟨rfl, ?_⟩ | refine ⟨_, rfl, ?_⟩ | with_reducible refine zP ?_ | with_reducible refine zL ?_ | refine ⟨fun _ => ?_, fun _ => ?_⟩ | refine zn ?_ | refine zb rfl ?_ | refine zX ?_ | refine zo rfl ?_ | refine zs ?_ | intro _)); all_goals (try (conv => whnf))
 rename_i hlen
 refine loop_inv (fun n s => ∃ (i : Nat) (acc : Int), n + i = l.length ∧ acc + sumL (ask1 t) (l.drop i) = asked l t ∧ 0 ≤ acc ∧ acc ≤ i * 400000000 ∧
  s = ⟨mkT 36 [(1, .p (.int .i64 t)), (5, .p (.int .i64 acc)), (19, .p (sL nl l)), (20, .p (.int .i64 (l.map eL).length)), (21, .p (.int .i64 i))], [none]⟩) l.length ?_ ?_
 ·conv => whnf
  exact ⟨0, 0, rfl, by simp [asked], Int.le_refl _, by omega, rfl⟩
 ·rintro n st b N ⟨i, acc, hi, hI, ha1, ha2, e⟩ hN
  cases e
  by_cases hlt : i < l.length
  ·have hrow : (l.map eL)[i]? = some (eL l[i]) := by simp [hlt]
   have hb := lt_t (n := (l.map eL).length) (by simpa using hlt)
   have hok := hl'.2 l[i] (List.getElem_mem _)
   have hc := hup l[i].t (by have := Ld.ok_iff.1 hok; omega)
   have hbd := ask1_bound hok h1 h2
   rw [List.drop_eq_getElem_cons hlt] at hI
   simp only [sumL] at hI
   (repeat' ((conv => whnf); first | exact trivial | with_reducible refine zX ?_ | refine ⟨rfl, ?_⟩ | refine ⟨_, rfl, ?_⟩ | with_reducible refine zP ?_ | with_reducible refine zL ?_ | refine ⟨fun _ => ?_, fun _ => ?_⟩ | refine zn ?_ | refine zb rfl ?_ | refine zX ?_ | refine zo rfl ?_ | refine zs ?_ | intro _)); all_goals (try (conv => whnf))
   rw [next1 (by simpa using hlt) hlen]
   have e1 : IntKind.wrap .i64 (l[i].c * ((t - 1) / l[i].t + 1)) = ask1 t l[i] := wrapE (by unfold ask1 at hbd; omega) (by unfold ask1 at hbd; omega)
   rw [e1, wrapE (by omega) (by omega)]
   exact hN (n - 1) _ (by omega) ⟨i + 1, acc + ask1 t l[i], by omega, by omega, by omega, by omega, rfl⟩
  ·have hb := lt_f (n := (l.map eL).length) (by simpa using hlt)
   (repeat' ((conv => whnf); first | exact trivial | with_reducible refine zX ?_ | refine ⟨rfl, ?_⟩ | refine ⟨_, rfl, ?_⟩ | with_reducible refine zP ?_ | with_reducible refine zL ?_ | refine ⟨fun _ => ?_, fun _ => ?_⟩ | refine zn ?_ | refine zb rfl ?_ | refine zX ?_ | refine zo rfl ?_ | refine zs ?_ | intro _)); all_goals (try (conv => whnf))
   rw [List.drop_of_length_le (by omega)] at hI
   simp only [sumL] at hI
   exact int_end (by omega)
theorem time66 (nl : Bool) (l : List Ld) : PureCall Tryz.prog 174 [sL nl l] (.tup [.p (.int .i64 (timeV l).1), .p (.bool (timeV l).2)]) := by
 have hm := may87 nl l
 cases hl : mayL l with
 | false =>
  rw [hl] at hm
  rw [timeV_bad hl]
  refine Fn.run k174 rfl ?_
  generalize Tryz.prog = P at *
  (repeat' ((conv => whnf); first | exact trivial | with_reducible refine zX ?_ | refine ⟨rfl, ?_⟩ | refine ⟨_, rfl, ?_⟩ | with_reducible refine zP ?_ | with_reducible refine zL ?_ | refine ⟨fun _ => ?_, fun _ => ?_⟩ | refine zn ?_ | refine zb rfl ?_ | refine zX ?_ | refine zo rfl ?_ | refine zs ?_ | intro _)); all_goals (try (conv => whnf))
  rfl
 | true =>
  rw [hl] at hm
  by_cases hn : l = []
  ·subst hn
   rw [timeV_nil]
   have hz : ((([] : List Ld).map eL).length : Int) == 0 := rfl
   refine Fn.run k174 rfl ?_
   generalize Tryz.prog = P at *
   (repeat' ((conv => whnf); first | exact trivial | with_reducible refine zX ?_ | refine ⟨rfl, ?_⟩ | refine ⟨_, rfl, ?_⟩ | with_reducible refine zP ?_ | with_reducible refine zL ?_ | refine ⟨fun _ => ?_, fun _ => ?_⟩ | refine zn ?_ | refine zb rfl ?_ | refine zX ?_ | refine zo rfl ?_ | refine zs ?_ | intro _)); all_goals (try (conv => whnf))
   rfl
  ·have hask := fun t h1 h2 => asked88 nl l t hl h1 h2
   have hz : (((l.map eL).length : Int) == 0) = false := by
    cases l with
    | nil => exact absurd rfl hn
    | cons x xs => simp; omega
   refine Fn.run k174 rfl ?_
   generalize Tryz.prog = P at *
   (repeat' ((conv => whnf); first | exact trivial | with_reducible refine zX ?_ | refine ⟨rfl, ?_⟩ | refine ⟨_, rfl, ?_⟩ | with_reducible refine zP ?_ | with_reducible refine zL ?_ | refine ⟨fun _ => ?_, fun _ => ?_⟩ | refine zn ?_ | refine zb rfl ?_ | refine zX ?_ | refine zo rfl ?_ | refine zs ?_ | intro _)); all_goals (try (conv => whnf))
   refine loop_inv (fun n s => ∃ t : Int, n = (20001 - t).toNat ∧ Seek l t ∧ s = ⟨mkT 22 [(0, .p (sL nl l)), (4, .p (.int .i64 t))], []⟩) 20000 ?_ ?_
   ·conv => whnf
    exact ⟨1, rfl, Seek.start hl hn, rfl⟩
   ·rintro n st b N ⟨t, hnn, hs, e⟩ hN
    cases e
    by_cases ht : t ≤ 20000
    ·have hc := hask t hs.lo ht
     have hb : decide (t ≤ 20000) = true := decide_eq_true ht
     (repeat' ((conv => whnf); first | exact trivial | with_reducible refine zX ?_ | refine ⟨rfl, ?_⟩ | refine ⟨_, rfl, ?_⟩ | with_reducible refine zP ?_ | with_reducible refine zL ?_ | refine ⟨fun _ => ?_, fun _ => ?_⟩ | refine zn ?_ | refine zb rfl ?_ | refine zX ?_ | refine zo rfl ?_ | refine zs ?_ | intro _)); all_goals (try (conv => whnf))
     ·rename_i e
      rw [hs.found ht (by simpa using e)]; rfl
     ·rename_i e
      have hx := hs.next ht (by simpa using e)
      exact hN _ _ (by omega) ⟨asked l t, rfl, hx.1, rfl⟩
    ·have hb : decide (t ≤ 20000) = false := decide_eq_false ht
     (repeat' ((conv => whnf); first | exact trivial | with_reducible refine zX ?_ | refine ⟨rfl, ?_⟩ | refine ⟨_, rfl, ?_⟩ | with_reducible refine zP ?_ | with_reducible refine zL ?_ | refine ⟨fun _ => ?_, fun _ => ?_⟩ | refine zn ?_ | refine zb rfl ?_ | refine zX ?_ | refine zo rfl ?_ | refine zs ?_ | intro _)); all_goals (try (conv => whnf))
     rw [hs.never ht]; rfl
theorem down_law {a b : Int} (hb : 1 ≤ b) : (if a.tmod b < 0 then a.tdiv b - 1 else a.tdiv b) = a / b := by
 have e1 := Int.mul_tdiv_add_tmod a b
 have h2 := Int.tmod_lt_of_pos a (show 0 < b by omega)
 have h3 : -b < a.tmod b := by
  have := Int.lt_tmod_of_pos a (show 0 < b by omega)
  omega
 split
 ·have : a = (a.tmod b + b) + b * (a.tdiv b - 1) := by rw [Int.mul_sub]; omega
  conv => rhs; rw [this]
  rw [Int.add_mul_ediv_left _ _ (by omega), Int.ediv_eq_zero_of_lt (a := a.tmod b + b) (b := b) (by omega) (by omega)]; omega
 ·have : a = a.tmod b + b * a.tdiv b := by omega
  conv => rhs; rw [this]
  rw [Int.add_mul_ediv_left _ _ (by omega), Int.ediv_eq_zero_of_lt (a := a.tmod b) (b := b) (by omega) (by omega)]; omega
theorem tdiv_small {a b : Int} (hb : 1 ≤ b) (h1 : -1000000 ≤ a) (h2 : a ≤ 1000000) : -1000000 ≤ a.tdiv b ∧ a.tdiv b ≤ 1000000 := by
 have := Int.natAbs_tdiv_le_natAbs a b
 omega
theorem down58 (a b : Int) (h1 : -1000000 ≤ a) (h2 : a ≤ 1000000) (hb : 1 ≤ b) : PureCall Tryz.prog 129 [.int .i64 a, .int .i64 b] (.p (.int .i64 (a / b))) := by
 have hl := down_law (a := a) hb
 have hq := tdiv_small hb h1 h2
 have hb0 : decide (b ≤ 0) = false := decide_eq_false (by omega)
 have hbn : b ≠ 0 := by omega
 refine Fn.run k129 rfl ?_
 generalize Tryz.prog = P at *
 (repeat' ((conv => whnf); first | exact trivial | with_reducible refine zX ?_ | refine ⟨rfl, ?_⟩ | refine ⟨_, rfl, ?_⟩ | with_reducible refine zP ?_ | with_reducible refine zL ?_ | refine ⟨fun _ => ?_, fun _ => ?_⟩ | refine zn ?_ | refine zb rfl ?_ | refine zX ?_ | refine zo rfl ?_ | refine zs ?_ | intro _)); all_goals (try (conv => whnf))
 ·rename_i e
  refine int_end ?_
  rw [wrapE (n := a.tdiv b) (by omega) (by omega), wrapE (by omega) (by omega), ← hl, if_pos (of_decide_eq_true e)]
 ·rename_i e
  refine int_end ?_
  rw [wrapE (n := a.tdiv b) (by omega) (by omega), ← hl, if_neg (of_decide_eq_false e)]
theorem due108 (x : Ld) (hx : x.ok = true) (t : Int) (h1 : 0 ≤ t) (h2 : t ≤ 20000) : PureCall Tryz.prog 236 [eL x, .int .i64 t] (.p (.int .i64 (due1 t x))) := by
 have hok := Ld.ok_iff.1 hx
 have hbd := due1_bound hx h2
 by_cases hd : x.d > t
 ·have hb : decide (x.d > t) = true := decide_eq_true hd
  refine Fn.run k236 rfl ?_
  generalize Tryz.prog = P at *
  (repeat' ((conv => whnf); first | exact trivial | with_reducible refine zX ?_ | refine ⟨rfl, ?_⟩ | refine ⟨_, rfl, ?_⟩ | with_reducible refine zP ?_ | with_reducible refine zL ?_ | refine ⟨fun _ => ?_, fun _ => ?_⟩ | refine zn ?_ | refine zb rfl ?_ | refine zX ?_ | refine zo rfl ?_ | refine zs ?_ | intro _)); all_goals (try (conv => whnf))
  exact int_end (by unfold due1; rw [if_pos hd])
 ·have hb : decide (x.d > t) = false := decide_eq_false hd
  have ht : IntKind.wrap .i64 (t - x.d) = t - x.d := wrapE (by omega) (by omega)
  have hdn := down58 (t - x.d) x.t (by omega) (by omega) (by omega)
  rw [← ht] at hdn
  have hq : 0 ≤ (t - x.d) / x.t ∧ (t - x.d) / x.t ≤ t - x.d := ⟨Int.ediv_nonneg (by omega) (by omega), Int.ediv_le_self _ (by omega)⟩
  unfold due1 at hbd ⊢
  rw [if_neg hd] at hbd ⊢
  refine Fn.run k236 rfl ?_
  generalize Tryz.prog = P at *
  (repeat' ((conv => whnf); first | exact trivial | with_reducible refine zX ?_ | refine ⟨rfl, ?_⟩ | refine ⟨_, rfl, ?_⟩ | with_reducible refine zP ?_ | with_reducible refine zL ?_ | refine ⟨fun _ => ?_, fun _ => ?_⟩ | refine zn ?_ | refine zb rfl ?_ | refine zX ?_ | refine zo rfl ?_ | refine zs ?_ | intro _)); all_goals (try (conv => whnf))
  refine int_end ?_
  rw [ht, wrapE (n := (t - x.d) / x.t + 1) (by omega) (by omega), wrapE (by omega) (by omega)]
theorem bound89 (nl : Bool) (l : List Ld) (t : Int) (hl : mayL l = true) (h1 : 0 ≤ t) (h2 : t ≤ 20000) : PureCall Tryz.prog 211 [sL nl l, .int .i64 t] (.p (.int .i64 (dueL l t))) := by
 have hm := any104 nl l 235 [] (fun x => !x.ok) fun x _ => bad107 x
 have hl' := mayL_iff.1 hl
 have ha : (l.any fun x => !x.ok) = false := by simpa using hl'.2
 rw [ha] at hm
 have hb24 : decide (((l.map eL).length : Int) > 24) = false := decide_eq_false (by simp; omega)
 have ht0 : decide (t < 0) = false := decide_eq_false (by omega)
 have ht1 : decide (t > 20000) = false := decide_eq_false (by omega)
 have hdue := fun x (hx : x.ok = true) => due108 x hx t h1 h2
 refine Fn.run k211 rfl ?_
 generalize Tryz.prog = P at *
 (repeat' ((conv => whnf); first | exact trivial | with_reducible refine zX ?_ | refine ⟨rfl, ?_⟩ | refine ⟨_, rfl, ?_⟩ | with_reducible refine zP ?_ | with_reducible refine zL ?_ | refine ⟨fun _ => ?_, fun _ => ?_⟩ | refine zn ?_ | refine zb rfl ?_ | refine zX ?_ | refine zo rfl ?_ | refine zs ?_ | intro _)); all_goals (try (conv => whnf))
 rename_i hlen
 refine loop_inv (fun n s => ∃ (i : Nat) (acc : Int), n + i = l.length ∧ acc + sumL (due1 t) (l.drop i) = dueL l t ∧ 0 ≤ acc ∧ acc ≤ i * 400000000 ∧
  s = ⟨mkT 38 [(1, .p (.int .i64 t)), (6, .p (.int .i64 acc)), (25, .p (sL nl l)), (26, .p (.int .i64 (l.map eL).length)), (27, .p (.int .i64 i))], [none]⟩) l.length ?_ ?_
 ·conv => whnf
  exact ⟨0, 0, rfl, by simp [dueL], Int.le_refl _, by omega, rfl⟩
 ·rintro n st b N ⟨i, acc, hi, hI, ha1, ha2, e⟩ hN
  cases e
  by_cases hlt : i < l.length
  ·have hrow : (l.map eL)[i]? = some (eL l[i]) := by simp [hlt]
   have hb := lt_t (n := (l.map eL).length) (by simpa using hlt)
   have hok := hl'.2 l[i] (List.getElem_mem _)
   have hc := hdue l[i] hok
   have hbd := due1_bound hok h2
   rw [List.drop_eq_getElem_cons hlt] at hI
   simp only [sumL] at hI
   (repeat' ((conv => whnf); first | exact trivial | with_reducible refine zX ?_ | refine ⟨rfl, ?_⟩ | refine ⟨_, rfl, ?_⟩ | with_reducible refine zP ?_ | with_reducible refine zL ?_ | refine ⟨fun _ => ?_, fun _ => ?_⟩ | refine zn ?_ | refine zb rfl ?_ | refine zX ?_ | refine zo rfl ?_ | refine zs ?_ | intro _)); all_goals (try (conv => whnf))
   rw [next1 (by simpa using hlt) hlen, wrapE (by omega) (by omega)]
   exact hN (n - 1) _ (by omega) ⟨i + 1, acc + due1 t l[i], by omega, by omega, by omega, by omega, rfl⟩
  ·have hb := lt_f (n := (l.map eL).length) (by simpa using hlt)
   (repeat' ((conv => whnf); first | exact trivial | with_reducible refine zX ?_ | refine ⟨rfl, ?_⟩ | refine ⟨_, rfl, ?_⟩ | with_reducible refine zP ?_ | with_reducible refine zL ?_ | refine ⟨fun _ => ?_, fun _ => ?_⟩ | refine zn ?_ | refine zb rfl ?_ | refine zX ?_ | refine zo rfl ?_ | refine zs ?_ | intro _)); all_goals (try (conv => whnf))
   rw [List.drop_of_length_le (by omega)] at hI
   simp only [sumL] at hI
   exact int_end (by omega)
theorem first67 (nl : Bool) (l : List Ld) : PureCall Tryz.prog 175 [sL nl l] (.tup [.p (.int .i64 (if (timeV l).2 then firstV l (timeV l).1 else 0)), .p (.bool ((timeV l).2 && decide (firstV l (timeV l).1 ≠ 0)))]) := by
 have htm := time66 nl l
 have hrange := timeV_range l
 generalize hT : timeV l = T at *
 obtain ⟨e0, ok⟩ := T
 cases ok with
 | false =>
  refine Fn.run k175 rfl ?_
  generalize Tryz.prog = P at *
  (repeat' ((conv => whnf); first | exact trivial | with_reducible refine zX ?_ | refine ⟨rfl, ?_⟩ | refine ⟨_, rfl, ?_⟩ | with_reducible refine zP ?_ | with_reducible refine zL ?_ | refine ⟨fun _ => ?_, fun _ => ?_⟩ | refine zn ?_ | refine zb rfl ?_ | refine zX ?_ | refine zo rfl ?_ | refine zs ?_ | intro _)); all_goals (try (conv => whnf))
  rfl
 | true =>
  have hl := (timeV_ok (by rw [hT])).1
  have hl' := mayL_iff.1 hl
  have hbnd := fun t h1 h2 => bound89 nl l t hl h1 h2
  simp only at hrange
  refine Fn.run k175 rfl ?_
  generalize Tryz.prog = P at *
  (repeat' ((conv => whnf); first | exact trivial | with_reducible refine zX ?_ | refine ⟨rfl, ?_⟩ | refine ⟨_, rfl, ?_⟩ | with_reducible refine zP ?_ | with_reducible refine zL ?_ | refine ⟨fun _ => ?_, fun _ => ?_⟩ | refine zn ?_ | refine zb rfl ?_ | refine zX ?_ | refine zo rfl ?_ | refine zs ?_ | intro _)); all_goals (try (conv => whnf))
  rename_i hlen
  refine loop_inv (fun n s => ∃ (i : Nat) (f : Int), n + i = l.length ∧ Look l e0 f (fun x _ => x ∈ l.take i) ∧ f ≤ e0 + 1 ∧
   s = ⟨mkT 45 [(0, .p (sL nl l)), (4, .p (.int .i64 e0)), (6, .p (.int .i64 f)), (19, .p (sL nl l)), (20, .p (.int .i64 (l.map eL).length)), (21, .p (.int .i64 i))], [none]⟩) l.length ?_ ?_
  ·conv => whnf
   refine ⟨0, e0 + 1, rfl, ⟨hl, .inl rfl, fun x _ k _ hx => by simp at hx⟩, Int.le_refl _, ?_⟩
   have hw : IntKind.wrap .i64 (e0 + 1) = e0 + 1 := wrapE (by omega) (by omega)
   rw [hw]; rfl
  ·rintro n st b N ⟨i, f, hi, hI, hf, e⟩ hN
   cases e
   by_cases hlt : i < l.length
   ·have hrow : (l.map eL)[i]? = some (eL l[i]) := by simp [hlt]
    have hb := lt_t (n := (l.map eL).length) (by simpa using hlt)
    have hok := Ld.ok_iff.1 (hl'.2 l[i] (List.getElem_mem _))
    (repeat' ((conv => whnf); first | exact trivial | with_reducible refine zX ?_ | refine ⟨rfl, ?_⟩ | refine ⟨_, rfl, ?_⟩ | with_reducible refine zP ?_ | with_reducible refine zL ?_ | refine ⟨fun _ => ?_, fun _ => ?_⟩ | refine zn ?_ | refine zb rfl ?_ | refine zX ?_ | refine zo rfl ?_ | refine zs ?_ | intro _)); all_goals (try (conv => whnf))
    refine loop_inv (fun n s => ∃ (k f t : Int), n = (e0 + 1 - t).toNat ∧ 0 ≤ k ∧ t = l[i].d + k * l[i].t ∧ Look l e0 f (fun x j => x ∈ l.take i ∨ (x = l[i] ∧ j < k)) ∧ f ≤ e0 + 1 ∧
     s = ⟨mkT 45 [(0, .p (sL nl l)), (4, .p (.int .i64 e0)), (6, .p (.int .i64 f)), (8, .addr 0 3 0 0), (9, .p (.int .i64 t)), (19, .p (sL nl l)), (20, .p (.int .i64 (l.map eL).length)), (21, .p (.int .i64 i))],
      [some ⟨true, 3, [[.p (.int .i64 l[i].c), .p (.int .i64 l[i].d), .p (.int .i64 l[i].t)]], false⟩]⟩) (e0 + 1 - l[i].d).toNat ?_ ?_
    ·conv => whnf
     exact ⟨0, f, l[i].d, rfl, Int.le_refl _, by omega, ⟨hI.may, hI.fst, fun x hx k hk hs => hI.ok x hx k hk (hs.resolve_right fun h => by omega)⟩, hf, rfl⟩
    ·rintro m st2 b2 N2 ⟨k, f2, t, hm, hk, htk, hI2, hf2, e2⟩ hN2
     cases e2
     by_cases hlt2 : t < f2
     ·have hb2 : decide (t < f2) = true := decide_eq_true hlt2
      have hkt : 0 ≤ k * l[i].t := Int.mul_nonneg hk (by omega)
      have hc := hbnd t (by omega) (by omega)
      have hkn : (k + 1) * l[i].t = k * l[i].t + l[i].t := by rw [Int.add_mul, Int.one_mul]
      (repeat' ((conv => whnf); first | exact trivial | with_reducible refine zX ?_ | refine ⟨rfl, ?_⟩ | refine ⟨_, rfl, ?_⟩ | with_reducible refine zP ?_ | with_reducible refine zL ?_ | refine ⟨fun _ => ?_, fun _ => ?_⟩ | refine zn ?_ | refine zb rfl ?_ | refine zX ?_ | refine zo rfl ?_ | refine zs ?_ | intro _)); all_goals (try (conv => whnf))
      ·rename_i ov
       have ov := of_decide_eq_true ov
       rw [wrapE (by omega) (by omega)]
       refine hN2 _ _ (by omega) ⟨k + 1, t, t + l[i].t, rfl, by omega, by omega, ⟨hI2.may, .inr ⟨by omega, by omega, ov⟩, fun x hx j hj hs hlt3 => ?_⟩, by omega, rfl⟩
       refine hI2.ok x hx j hj ?_ (by omega)
       rcases hs with hs | ⟨rfl, hs⟩
       ·exact .inl hs
       ·refine .inr ⟨rfl, ?_⟩
        by_cases e : j = k
        ·subst e; omega
        ·omega
      ·rename_i ov
       have ov := of_decide_eq_false ov
       rw [wrapE (by omega) (by omega)]
       refine hN2 _ _ (by omega) ⟨k + 1, f2, t + l[i].t, rfl, by omega, by omega, ⟨hI2.may, hI2.fst, fun x hx j hj hs hlt3 => ?_⟩, hf2, rfl⟩
       rcases hs with hs | ⟨rfl, hs⟩
       ·exact hI2.ok x hx j hj (.inl hs) hlt3
       ·by_cases e : j = k
        ·subst e; rw [← htk]; omega
        ·exact hI2.ok _ hx j hj (.inr ⟨rfl, by omega⟩) hlt3
     ·have hb2 : decide (t < f2) = false := decide_eq_false hlt2
      (repeat' ((conv => whnf); first | exact trivial | with_reducible refine zX ?_ | refine ⟨rfl, ?_⟩ | refine ⟨_, rfl, ?_⟩ | with_reducible refine zP ?_ | with_reducible refine zL ?_ | refine ⟨fun _ => ?_, fun _ => ?_⟩ | refine zn ?_ | refine zb rfl ?_ | refine zX ?_ | refine zo rfl ?_ | refine zs ?_ | intro _)); all_goals (try (conv => whnf))
      rw [next1 (by simpa using hlt) hlen]
      refine hN (n - 1) _ (by omega) ⟨i + 1, f2, by omega, ⟨hI2.may, hI2.fst, fun x hx j hj hs hlt3 => ?_⟩, hf2, rfl⟩
      refine hI2.ok x hx j hj ?_ hlt3
      rw [List.take_add_one, List.getElem?_eq_getElem hlt] at hs
      rcases List.mem_append.1 hs with hs | hs
      ·exact .inl hs
      ·simp only [Option.toList_some, List.mem_singleton] at hs
       subst hs
       refine .inr ⟨rfl, Int.not_le.1 fun hle => ?_⟩
       have := Int.mul_le_mul_of_nonneg_right hle (show 0 ≤ l[i].t by omega)
       omega
   ·have hb := lt_f (n := (l.map eL).length) (by simpa using hlt)
    have hend := hI.end fun x hx k _ _ => by rw [List.take_of_length_le (by omega)]; exact hx
    by_cases hfe : f > e0
    ·have hb3 : decide (f > e0) = true := decide_eq_true hfe
     rw [if_pos hfe] at hend
     (repeat' ((conv => whnf); first | exact trivial | with_reducible refine zX ?_ | refine ⟨rfl, ?_⟩ | refine ⟨_, rfl, ?_⟩ | with_reducible refine zP ?_ | with_reducible refine zL ?_ | refine ⟨fun _ => ?_, fun _ => ?_⟩ | refine zn ?_ | refine zb rfl ?_ | refine zX ?_ | refine zo rfl ?_ | refine zs ?_ | intro _)); all_goals (try (conv => whnf))
     show resOf _ = DV.tup [TV.p (.int .i64 (firstV l e0)), TV.p (.bool (true && decide (firstV l e0 ≠ 0)))]
     rw [hend]
     rfl
    ·have hb3 : decide (f > e0) = false := decide_eq_false hfe
     rw [if_neg hfe] at hend
     have hf1 : f ≠ 0 := by rcases hI.fst with h | h <;> omega
     (repeat' ((conv => whnf); first | exact trivial | with_reducible refine zX ?_ | refine ⟨rfl, ?_⟩ | refine ⟨_, rfl, ?_⟩ | with_reducible refine zP ?_ | with_reducible refine zL ?_ | refine ⟨fun _ => ?_, fun _ => ?_⟩ | refine zn ?_ | refine zb rfl ?_ | refine zX ?_ | refine zo rfl ?_ | refine zs ?_ | intro _)); all_goals (try (conv => whnf))
     show resOf _ = DV.tup [TV.p (.int .i64 (firstV l e0)), TV.p (.bool (true && decide (firstV l e0 ≠ 0)))]
     rw [hend, decide_eq_true hf1]
     rfl
theorem fits47 (nl : Bool) (l : List Ld) : PureCall Tryz.prog 136 [sL nl l] (.p (.bool (fitsB l))) := by
 have h1 := time66 nl l
 have h2 := first67 nl l
 rw [fitsB_eq]
 generalize timeV l = T at *
 obtain ⟨e0, ok⟩ := T
 refine Fn.run k136 rfl ?_
 generalize Tryz.prog = P at *
 (repeat' ((conv => whnf); first | exact trivial | with_reducible refine zX ?_ | refine ⟨rfl, ?_⟩ | refine ⟨_, rfl, ?_⟩ | with_reducible refine zP ?_ | with_reducible refine zL ?_ | refine ⟨fun _ => ?_, fun _ => ?_⟩ | refine zn ?_ | refine zb rfl ?_ | refine zX ?_ | refine zo rfl ?_ | refine zs ?_ | intro _)); all_goals (try (conv => whnf))
 ·rename_i e
  exact bool_end (by simp only at e; subst e; simp)
 ·rename_i e
  exact bool_end (by simp only [Bool.not_true] at e; subst e; simp)
end Go.Proofs.YtnjphclbpgajpaaGreatDoor.Vc
namespace Go.Proofs.YtnjphclbpgajpaaGreatDoor.Vc
open Go.RowKit Ma
theorem loads98 (nl : Bool) (l : List Ld) : PureCall Tryz.prog 42 [sL nl l] (.p (.bool (mayL l))) := by
 have hld := load120
 refine Fn.run k42 rfl ?_
 generalize Tryz.prog = P at *
 (repeat' ((conv => whnf); first | exact trivial | with_reducible refine zX ?_ | refine ⟨rfl, ?_⟩ | refine ⟨_, rfl, ?_⟩ | with_reducible refine zP ?_ | with_reducible refine zL ?_ | refine ⟨fun _ => ?_, fun _ => ?_⟩ | refine zn ?_ | refine zb rfl ?_ | refine zX ?_ | refine zo rfl ?_ | refine zs ?_ | intro _)); all_goals (try (conv => whnf))
 refine loop_inv (fun n s => ∃ i : Nat, n + i = l.length ∧ (l.drop i).all Ld.ok = l.all Ld.ok ∧ s = ⟨mkT 19 [(0, .p (sL nl l)), (3, .p (.int .i64 i))], []⟩) l.length ?_ ?_
 ·conv => whnf
  exact ⟨0, rfl, rfl, rfl⟩
 ·rintro n st b N ⟨i, hi, hI, e⟩ hN
  cases e
  by_cases hlt : i < l.length
  ·have hrow : (l.map eL)[i]? = some (eL l[i]) := by simp [hlt]
   have hb := lt_t (n := (l.map eL).length) (by simpa using hlt)
   have hc := hld l[i]
   rw [List.drop_eq_getElem_cons hlt] at hI
   simp only [List.all_cons] at hI
   (repeat' ((conv => whnf); first | exact trivial | with_reducible refine zX ?_ | refine ⟨rfl, ?_⟩ | refine ⟨_, rfl, ?_⟩ | with_reducible refine zP ?_ | with_reducible refine zL ?_ | refine ⟨fun _ => ?_, fun _ => ?_⟩ | refine zn ?_ | refine zb rfl ?_ | refine zX ?_ | refine zo rfl ?_ | refine zs ?_ | intro _)); all_goals (try (conv => whnf))
   ·rename_i e
    refine bool_end ?_
    unfold mayL
    simp only [Bool.not_eq_true'] at e
    rw [← hI, e]; simp
   ·rename_i hlen e
    simp only [Bool.not_eq_false'] at e
    rw [next1 (by simpa using hlt) hlen]
    rw [e, Bool.true_and] at hI
    exact hN (n - 1) _ (by omega) ⟨i + 1, by omega, hI, rfl⟩
  ·have hb := lt_f (n := (l.map eL).length) (by simpa using hlt)
   (repeat' ((conv => whnf); first | exact trivial | with_reducible refine zX ?_ | refine ⟨rfl, ?_⟩ | refine ⟨_, rfl, ?_⟩ | with_reducible refine zP ?_ | with_reducible refine zL ?_ | refine ⟨fun _ => ?_, fun _ => ?_⟩ | refine zn ?_ | refine zb rfl ?_ | refine zX ?_ | refine zo rfl ?_ | refine zs ?_ | intro _)); all_goals (try (conv => whnf))
   refine bool_end ?_
   unfold mayL
   rw [List.drop_of_length_le (by omega)] at hI
   simp only [List.all_nil] at hI
   rw [← hI, Bool.and_true, Bool.eq_iff_iff, decide_eq_true_eq, decide_eq_true_eq, List.length_map]
   omega
end Go.Proofs.YtnjphclbpgajpaaGreatDoor.Vc
namespace Go.Proofs.YtnjphclbpgajpaaGreatDoor.Vc
open Go.RowKit
def F155 : Fn := ⟨107, 6, [.tmp 0],
 (.seq
 (.reg [mc 0 (.bool false)])
 (.seq
 (.gp (.reg [⟨some 12, none, .build [.int .i64 0, .int .i64 0, .int .i64 0, .int .i64 0, .sl 1 true []] [(0, 1), (2, 1), (3, 1)], [.c (.p (.int .i64 2)), .c (.p (.int .i64 1)), .c (.p (.int .i64 1))]⟩,
 ⟨some 1, none, .alloc 0 5 [.p (.int .i64 0), .p (.int .i64 0), .p (.int .i64 0), .p (.int .i64 0), .ow 1 true []], []⟩,
 ⟨none, none, .store 5, [.t 1, .t 12]⟩]) (.lay 0 5))
 (.seq
 (.reg [⟨some 13, none, .build [.int .i64 0, .int .i64 0, .int .i64 0] [(0, 1), (1, 1), (2, 1)], [.c (.p (.int .i64 6)), .c (.p (.int .i64 10)), .c (.p (.int .i64 10))]⟩,
 ii 14 (.bsl 3 1) [.t 13],
 ⟨some 15, none, .build [.int .i64 0, .int .i64 0, .int .i64 0] [(0, 1), (1, 1), (2, 1)], [.c (.p (.int .i64 6)), .c (.p (.int .i64 10)), .c (.p (.int .i64 10))]⟩,
 ii 16 (.bsl 3 1) [.t 15],
 ii 17 (.bsl 1 2) [.t 14, .t 16],
 mt 2 17])
 (.seq
 (.gp (.reg [⟨some 18, none, .build [.int .i64 0, .int .i64 0, .int .i64 0, .sl 3 true []] [(0, 1), (1, 1), (2, 1)], [.c (.p (.int .i64 5)), .c (.p (.int .i64 10)), .c (.p (.int .i64 10))]⟩,
 ⟨some 3, none, .alloc 1 4 [.p (.int .i64 0), .p (.int .i64 0), .p (.int .i64 0), .ow 3 true []], []⟩,
 ⟨none, none, .store 4, [.t 3, .t 18]⟩]) (.lay 1 4))
 (.seq
 (.gp (.reg [mv 20 2,
 ii 21 (.load 4 true false) [.t 3],
 ii 22 (.call 52) [.t 20, .t 21, .c (.p (.int .i64 0))],
 mv 19 22,
 ii 23 (.ext 0) [.t 19],
 ii 24 (.ext 1) [.t 19],
 ⟨some 4, none, .alloc 2 2 [.p (.int .i64 0), .ow 4 true []], []⟩,
 ⟨none, none, .store 2, [.t 4, .t 23]⟩,
 mt 5 24]) (.lay 2 2))
 (.seq
 (.gp (.reg [ii 26 (.bsl 1 2) [.c (.ow 3 true []), .c (.ow 3 true [])],
 ii 27 (.load 4 true false) [.t 3],
 ii 28 (.call 52) [.t 26, .t 27, .c (.p (.int .i64 1))],
 mv 25 28,
 ii 29 (.ext 0) [.t 25],
 ii 30 (.ext 1) [.t 25],
 ⟨some 6, none, .alloc 3 2 [.p (.int .i64 0), .ow 4 true []], []⟩,
 ⟨none, none, .store 2, [.t 6, .t 29]⟩,
 mt 7 30]) (.lay 3 2))
 (.seq
 (.gp (.reg [ii 32 (.load 5 true false) [.t 1],
 mv 33 2,
 ii 34 (.load 4 true false) [.t 3],
 ii 35 (.call 50) [.t 32, .t 33, .t 34],
 mv 31 35,
 ii 36 (.ext 0) [.t 31],
 ii 37 (.ext 1) [.t 31],
 ⟨some 8, none, .alloc 4 2 [.p (.int .i64 0), .ow 4 true []], []⟩,
 ⟨none, none, .store 2, [.t 8, .t 36]⟩,
 mt 9 37]) (.lay 4 2))
 (.seq
 (.gp (.reg [ii 39 (.load 5 true false) [.t 1],
 mv 40 2,
 ⟨some 41, none, .build [.int .i64 0, .int .i64 0, .int .i64 0, .sl 3 true []] [(0, 1), (1, 1), (2, 1)], [.c (.p (.int .i64 5)), .c (.p (.int .i64 20)), .c (.p (.int .i64 20))]⟩,
 ii 42 (.call 51) [.t 39, .t 40, .t 41],
 mv 38 42,
 ii 43 (.ext 0) [.t 38],
 ii 44 (.ext 1) [.t 38],
 ⟨some 10, none, .alloc 5 2 [.p (.int .i64 0), .ow 4 true []], []⟩,
 ⟨none, none, .store 2, [.t 10, .t 43]⟩,
 mt 11 44]) (.lay 5 2))
 (.seq
 (.reg [ii 45 (.call 184) [],
 mv 46 45,
 gt 47 46 (.mov false) [.t 5],
 gt 48 46 (.un .not) [.t 47],
 ii 49 .pick [.t 46, .t 48, .c (.p (.bool false))],
 mv 50 49,
 gt 51 50 (.mov false) [.t 7],
 ii 52 .pick [.t 50, .t 51, .c (.p (.bool false))],
 mv 53 52,
 gt 54 53 (.fad 0) [.t 6],
 gt 55 53 (.load 1 false false) [.t 54],
 gt 56 53 (.bin .eql) [.t 55, .c (.p (.int .i64 1))],
 ii 57 .pick [.t 53, .t 56, .c (.p (.bool false))],
 mv 58 57,
 gt 59 58 (.fad 1) [.t 6],
 gt 60 58 (.load 1 false false) [.t 59],
 gt 61 58 .len [.t 60],
 gt 62 58 (.bin .eql) [.t 61, .c (.p (.int .i64 1))],
 ii 63 .pick [.t 58, .t 62, .c (.p (.bool false))],
 mv 64 63,
 gt 65 64 (.mov false) [.t 9],
 gt 66 64 (.load 5 true false) [.t 1],
 gt 67 64 (.load 4 true false) [.t 3],
 gt 68 64 (.load 2 true false) [.t 8],
 gt 69 64 (.call 185) [.t 66, .t 67, .t 68],
 gt 70 64 (.eqb false) [.t 65, .t 69],
 ii 71 .pick [.t 64, .t 70, .c (.p (.bool false))],
 mv 72 71,
 gt 73 72 (.mov false) [.t 11],
 gt 74 72 (.load 5 true false) [.t 1],
 ⟨some 75, (some (72, true)), .build [.int .i64 0, .int .i64 0, .int .i64 0, .sl 3 true []] [(0, 1), (1, 1), (2, 1)], [.c (.p (.int .i64 5)), .c (.p (.int .i64 20)), .c (.p (.int .i64 20))]⟩,
 gt 76 72 (.load 2 true false) [.t 10],
 gt 77 72 (.call 185) [.t 74, .t 75, .t 76],
 gt 78 72 (.eqb false) [.t 73, .t 77],
 ii 79 .pick [.t 72, .t 78, .c (.p (.bool false))],
 mv 80 79,
 gt 81 80 (.load 5 true false) [.t 1],
 gt 82 80 (.load 4 true false) [.t 3],
 gt 83 80 (.call 82) [.t 81, .t 82, .c (.p (.int .i64 2))],
 gt 84 80 (.bin .eql) [.t 83, .c (.p (.int .i64 4))],
 ii 85 .pick [.t 80, .t 84, .c (.p (.bool false))],
 mv 86 85,
 gt 87 86 (.load 2 true false) [.t 6],
 gt 88 86 (.call 186) [.t 87],
 gt 89 86 (.bin .eql) [.t 88, .c (.p (.int .i64 5))],
 ii 90 .pick [.t 86, .t 89, .c (.p (.bool false))],
 mv 91 90,
 gt 92 91 (.load 2 true false) [.t 6],
 gt 93 91 (.call 26) [.t 92, .c (.p (.int .i64 0)), .c (.p (.int .i64 7))],
 gt 94 91 (.bin .eql) [.t 93, .c (.p (.int .i64 17))],
 ii 95 .pick [.t 91, .t 94, .c (.p (.bool false))],
 mv 96 95,
 gt 97 96 (.load 2 true false) [.t 6],
 gt 98 96 (.load 2 true false) [.t 6],
 gt 99 96 (.call 187) [.t 97, .t 98],
 ii 100 .pick [.t 96, .t 99, .c (.p (.bool false))],
 mv 101 100,
 gt 102 101 (.mov false) [.t 2],
 ⟨some 103, (some (101, true)), .build [.int .i64 0, .int .i64 0, .int .i64 0] [(0, 1), (1, 1), (2, 1)], [.c (.p (.int .i64 1)), .c (.p (.int .i64 10)), .c (.p (.int .i64 10))]⟩,
 gt 104 101 (.call 86) [.t 102, .t 103],
 gt 105 101 (.bin .eql) [.t 104, .c (.p (.int .i64 0))],
 ii 106 .pick [.t 101, .t 105, .c (.p (.bool false))],
 mt 0 106])
 .ret)))))))))⟩
theorem k155 : chkF Tryz.prog 155 F155 = true := by kernel_rfl
def F52 : Fn := ⟨31, 2, [.cell 6 2, .tmp 7],
 (.seq
 (.reg [ii 4 (.box 0 4) [.t 1],
 ⟨some 6, none, .alloc 1 2 [.p (.int .i64 0), .ow 4 true []], []⟩,
 mc 7 (.bool false)])
 (.seq
 (.reg [mv 9 0,
 fa 10 0 4,
 ld 11 10,
 mv 12 2,
 b2 13 .add 11 12,
 fa 14 1 4,
 ld 15 14,
 fa 16 2 4,
 ld 17 16,
 ⟨some 18, none, .build [.int .i64 0, .int .i64 0, .int .i64 0] [(0, 1), (1, 1), (2, 1)], [.t 13, .t 15, .t 17]⟩,
 ii 19 (.call 86) [.t 9, .t 18],
 mt 8 19])
 (.seq
 (.seq
 (.reg [mv 20 8,
 b1 21 .lss 20 (.int .i64 0)])
 (.cond (.t 21)
 (.seq
 (.gp (.reg [⟨some 22, none, .build [.int .i64 0, .sl 4 true []] [], []⟩,
 ⟨none, none, .store 2, [.t 6, .t 22]⟩,
 mc 7 (.bool false)]) (.lay 1 2))
 .ret)
 .skip))
 (.seq
 (.gp (.reg [mv 23 8,
 fa 24 1 4,
 ld 25 24,
 fa 26 0 4,
 ld 27 26,
 ⟨some 28, none, .build [.int .i64 0, .int .i64 0, .int .i64 0, .int .i64 0] [(0, 1), (2, 1), (3, 1)], [.t 23, .t 25, .t 27]⟩,
 ii 29 (.bsl 4 1) [.t 28],
 ⟨some 30, none, .build [.int .i64 0, .sl 4 true []] [(0, 1), (1, 1)], [.c (.p (.int .i64 1)), .t 29]⟩,
 ⟨none, none, .store 2, [.t 6, .t 30]⟩,
 mc 7 (.bool true)]) (.lay 1 2))
 .ret))))⟩
theorem k52 : chkF Tryz.prog 52 F52 = true := by kernel_rfl
def F86 : Fn := ⟨8, 1, [.tmp 4],
 (.seq
 (.reg [ii 3 (.box 0 3) [.t 1],
 mc 4 (.int .i64 0)])
 (.seq
 (.pre [] [0] [] (.reg [mv 5 0,
 ii 6 (.mkfn 139) [.t 3],
 ii 7 (.call 138) [.t 5, .t 6],
 mt 4 7]))
 .ret))⟩
theorem k86 : chkF Tryz.prog 86 F86 = true := by kernel_rfl
end Go.Proofs.YtnjphclbpgajpaaGreatDoor.Vc
namespace Go.Proofs.YtnjphclbpgajpaaGreatDoor.Ma
def insRev {α : Type} (lt : α → α → Bool) (e : α) : List α → List α
 | [] => [e]
 | b :: bs => if lt e b then b :: insRev lt e bs else e :: b :: bs
def isRev {α : Type} (lt : α → α → Bool) (l : List α) : List α := l.foldl (fun acc e => insRev lt e acc) []
def isort {α : Type} (lt : α → α → Bool) (l : List α) : List α := (isRev lt l).reverse
theorem insRev_perm {α : Type} (lt : α → α → Bool) (e : α) (l : List α) : (insRev lt e l).Perm (e :: l) := by
 induction l with
 | nil => exact .refl _
 | cons b bs ih =>
  simp only [insRev]
  split
  ·exact (ih.cons b).trans (.swap e b bs)
  ·exact .refl _
theorem isRev_perm {α : Type} (lt : α → α → Bool) (l : List α) : (isRev lt l).Perm l := by
 suffices ∀ (l acc : List α), (l.foldl (fun acc e => insRev lt e acc) acc).Perm (acc ++ l) by simpa [isRev] using this l []
 intro l
 induction l with
 | nil => intro acc; simp
 | cons e es ih =>
  intro acc
  simp only [List.foldl_cons]
  refine (ih _).trans ?_
  refine ((insRev_perm lt e acc).append_right es).trans ?_
  exact List.perm_middle.symm
theorem isort_perm {α : Type} (lt : α → α → Bool) (l : List α) : (isort lt l).Perm l := (List.reverse_perm _).trans (isRev_perm lt l)
theorem isort_length {α : Type} (lt : α → α → Bool) (l : List α) : (isort lt l).length = l.length := (isort_perm lt l).length_eq
theorem insRev_sorted {α : Type} {lt : α → α → Bool} {r : α → α → Prop} (e : α) (htr : ∀ a b c, r a b → r b c → r a c) :
  ∀ (l : List α), (∀ b, b ∈ l → (lt e b = true → r e b) ∧ (lt e b = false → r b e)) → l.Pairwise (fun a b => r b a) → (insRev lt e l).Pairwise fun a b => r b a := by
 intro l
 induction l with
 | nil => intro _ _; simp [insRev]
 | cons b bs ih =>
  intro he hp
  rw [List.pairwise_cons] at hp
  simp only [insRev]
  split
  ·rename_i h
   rw [List.pairwise_cons]
   refine ⟨fun x hx => ?_, ih (fun y hy => he y (List.mem_cons_of_mem _ hy)) hp.2⟩
   rcases List.mem_cons.1 ((insRev_perm lt e bs).mem_iff.1 hx) with rfl | hx
   ·exact (he b (List.mem_cons_self ..)).1 h
   ·exact hp.1 x hx
  ·rename_i h
   have hb := (he b (List.mem_cons_self ..)).2 (by simpa using h)
   rw [List.pairwise_cons]
   refine ⟨fun x hx => ?_, List.pairwise_cons.2 hp⟩
   rcases List.mem_cons.1 hx with rfl | hx
   ·exact hb
   ·exact htr _ _ _ (hp.1 x hx) hb
theorem isort_sorted {α : Type} {lt : α → α → Bool} {r : α → α → Prop} (htr : ∀ a b c, r a b → r b c → r a c) (l : List α)
  (h : l.Pairwise fun a b => (lt b a = true → r b a) ∧ (lt b a = false → r a b)) : (isort lt l).Pairwise r := by
 unfold isort
 rw [List.pairwise_reverse]
 suffices ∀ (l acc : List α), acc.Pairwise (fun a b => r b a) → (∀ a, a ∈ acc → ∀ b, b ∈ l → (lt b a = true → r b a) ∧ (lt b a = false → r a b)) →
   l.Pairwise (fun a b => (lt b a = true → r b a) ∧ (lt b a = false → r a b)) → (l.foldl (fun acc e => insRev lt e acc) acc).Pairwise fun a b => r b a from this l [] List.Pairwise.nil (fun a h => by cases h) h
 intro l
 induction l with
 | nil => intro acc h _ _; exact h
 | cons e es ih =>
  intro acc hacc h1 h2
  rw [List.pairwise_cons] at h2
  simp only [List.foldl_cons]
  refine ih _ (insRev_sorted e htr acc (fun b hb => h1 b hb e (List.mem_cons_self ..)) hacc) (fun a ha b hb => ?_) h2.2
  rcases List.mem_cons.1 ((insRev_perm lt e acc).mem_iff.1 ha) with rfl | ha
  ·exact h2.1 b hb
  ·exact h1 a ha b (List.mem_cons_of_mem _ hb)
structure Place where
 core : Int
 x : Int
deriving DecidableEq
def Place.ahead (a b : Place) : Prop := b.x < a.x ∨ (a.x = b.x ∧ a.core < b.core)
theorem ahead_trans (a b c : Place) (h1 : a.ahead b) (h2 : b.ahead c) : a.ahead c := by unfold Place.ahead at *; omega
theorem ahead_irr (a : Place) : ¬ a.ahead a := by unfold Place.ahead; omega
theorem ahead_asym (a b : Place) (h : a.ahead b) : ¬ b.ahead a := by unfold Place.ahead at *; omega
def ltX (a b : Place) : Bool := decide (b.x < a.x)
def ltC (a b : Place) : Bool := decide (a.core < b.core)
theorem sortX (l : List Place) (h : l.Pairwise fun a b => a.core < b.core) : (isort ltX l).Pairwise Place.ahead := by
 refine isort_sorted ahead_trans l (h.imp fun {a b} hab => ⟨fun h => ?_, fun h => ?_⟩)
 ·simp only [ltX, decide_eq_true_eq] at h; exact .inl h
 ·simp only [ltX, decide_eq_false_iff_not] at h; unfold Place.ahead; omega
theorem sortC (l : List Place) (h : l.Pairwise fun a b => a.core ≠ b.core) : (isort ltC l).Pairwise fun a b => a.core < b.core := by
 refine isort_sorted (fun a b c h1 h2 => by omega) l (h.imp fun {a b} hab => ⟨fun h => ?_, fun h => ?_⟩)
 ·simpa [ltC] using h
 ·simp only [ltC, decide_eq_false_iff_not] at h; omega
def bestV (l : List Place) (n : Nat) : List Place := if l.length < n then [] else isort ltC ((isort ltX l).take n)
theorem pw_ne {l : List Place} (h : l.Pairwise fun a b => a.core < b.core) : l.Pairwise fun a b => a.core ≠ b.core := h.imp fun hab => by omega
theorem take_ne {l : List Place} (h : l.Pairwise fun a b => a.core < b.core) (n : Nat) : ((isort ltX l).take n).Pairwise fun a b => a.core ≠ b.core := by
 have h1 : (isort ltX l).Pairwise fun a b => a.core ≠ b.core := ((isort_perm ltX l).pairwise_iff (fun {a b} h => Ne.symm h)).2 (pw_ne h)
 exact h1.sublist (List.take_sublist _ _)
theorem bestV_sorted {l : List Place} {n : Nat} (h : l.Pairwise fun a b => a.core < b.core) : (bestV l n).Pairwise fun a b => a.core < b.core := by
 unfold bestV
 split
 ·exact List.Pairwise.nil
 ·exact sortC _ (take_ne h n)
end Go.Proofs.YtnjphclbpgajpaaGreatDoor.Ma
namespace Go.Proofs.YtnjphclbpgajpaaGreatDoor.Ma
def placesFrom (move : Int) : Int → List Int → List Place
 | _, [] => []
 | k, x :: xs => if move < x then ⟨k, x⟩ :: placesFrom move (k + 1) xs else placesFrom move (k + 1) xs
def places (move : Int) (xs : List Int) : List Place := placesFrom move 0 xs
theorem placesFrom_mem {move : Int} {xs : List Int} : ∀ {k : Int} {p : Place}, p ∈ placesFrom move k xs ↔ k ≤ p.core ∧ xs[(p.core - k).toNat]? = some p.x ∧ move < p.x := by
 induction xs with
 | nil => intro k p; simp [placesFrom]
 | cons x xs ih =>
  intro k p
  have key : (k + 1 ≤ p.core ∧ xs[(p.core - (k + 1)).toNat]? = some p.x ∧ move < p.x) ↔ (k ≤ p.core ∧ p.core ≠ k ∧ (x :: xs)[(p.core - k).toNat]? = some p.x ∧ move < p.x) := by
   by_cases hk : k + 1 ≤ p.core
   ·have e : (p.core - k).toNat = (p.core - (k + 1)).toNat + 1 := by omega
    rw [e, List.getElem?_cons_succ]
    constructor
    ·exact fun ⟨_, h2, h3⟩ => ⟨by omega, by omega, h2, h3⟩
    ·exact fun ⟨_, _, h2, h3⟩ => ⟨hk, h2, h3⟩
   ·constructor
    ·exact fun h => absurd h.1 hk
    ·exact fun h => absurd h.2.1 (by omega)
  have hd : p.core = k → ((x :: xs)[(p.core - k).toNat]? = some p.x ↔ p = ⟨k, x⟩) := by
   intro e
   have e0 : (p.core - k).toNat = 0 := by omega
   rw [e0, List.getElem?_cons_zero]
   cases p
   simp only [Option.some.injEq, Place.mk.injEq] at *
   constructor
   ·exact fun h => ⟨e, h.symm⟩
   ·exact fun h => h.2.symm
  simp only [placesFrom]
  split
  ·rename_i hx
   rw [List.mem_cons, ih, key]
   constructor
   ·rintro (rfl | h)
    ·exact ⟨Int.le_refl _, by simp, hx⟩
    ·exact ⟨h.1, h.2.2.1, h.2.2.2⟩
   ·rintro ⟨h1, h2, h3⟩
    by_cases e : p.core = k
    ·exact .inl ((hd e).1 h2)
    ·exact .inr ⟨h1, e, h2, h3⟩
  ·rename_i hx
   rw [ih, key]
   constructor
   ·exact fun h => ⟨h.1, h.2.2.1, h.2.2.2⟩
   ·rintro ⟨h1, h2, h3⟩
    refine ⟨h1, fun e => ?_, h2, h3⟩
    have := (hd e).1 h2
    subst this
    exact hx h3
theorem placesFrom_sorted {move : Int} {xs : List Int} : ∀ {k : Int}, (placesFrom move k xs).Pairwise fun a b => a.core < b.core := by
 induction xs with
 | nil => exact List.Pairwise.nil
 | cons x xs ih =>
  intro k
  simp only [placesFrom]
  split
  ·refine List.pairwise_cons.2 ⟨fun p hp => ?_, ih⟩
   have := (placesFrom_mem.1 hp).1
   simp only; omega
  ·exact ih
theorem places_mem {move : Int} {xs : List Int} {p : Place} : p ∈ places move xs ↔ 0 ≤ p.core ∧ xs[p.core.toNat]? = some p.x ∧ move < p.x := by
 unfold places
 rw [placesFrom_mem]
 simp
theorem places_sorted {move : Int} {xs : List Int} : (places move xs).Pairwise fun a b => a.core < b.core := placesFrom_sorted
theorem asc_uniq : ∀ (l m : List Int), l.Pairwise (· < ·) → m.Pairwise (· < ·) → (∀ x, x ∈ l ↔ x ∈ m) → l = m := by
 intro l
 induction l with
 | nil =>
  intro m _ _ h
  cases m with
  | nil => rfl
  | cons b m => exact absurd ((h b).2 (List.mem_cons_self ..)) (by simp)
 | cons a l ih =>
  intro m hl hm h
  cases m with
  | nil => exact absurd ((h a).1 (List.mem_cons_self ..)) (by simp)
  | cons b m =>
   rw [List.pairwise_cons] at hl hm
   have hab : a = b := by
    rcases List.mem_cons.1 ((h a).1 (List.mem_cons_self ..)) with e | ha
    ·exact e
    ·rcases List.mem_cons.1 ((h b).2 (List.mem_cons_self ..)) with e | hb
     ·exact e.symm
     ·have := hl.1 b hb; have := hm.1 a ha; omega
   subst hab
   rw [ih m hl.2 hm.2 fun x => ?_]
   constructor
   ·intro hx
    rcases List.mem_cons.1 ((h x).1 (List.mem_cons_of_mem _ hx)) with e | h'
    ·have := hl.1 x hx; omega
    ·exact h'
   ·intro hx
    rcases List.mem_cons.1 ((h x).2 (List.mem_cons_of_mem _ hx)) with e | h'
    ·have := hm.1 x hx; omega
    ·exact h'
section greedy
variable {l : List Place}
theorem greedy_some {L : List Place} (h : L.Pairwise Place.ahead) {i : Nat} {p : Place} (hp : p ∈ L) (hn : p ∉ L.take i) (ha : ∀ q, q ∈ L → q ∉ L.take i → q ≠ p → p.ahead q) : L[i]? = some p := by
 obtain ⟨j, hj, e⟩ := List.mem_iff_getElem.1 hp
 have hij : i ≤ j := by
  refine Nat.le_of_not_lt fun hlt => hn ?_
  rw [← e]
  exact List.mem_iff_getElem.2 ⟨j, by simp; omega, by simp⟩
 have hi : i < L.length := by omega
 by_cases hji : j = i
 ·subst hji; rw [List.getElem?_eq_getElem hj, e]
 ·have h1 := List.pairwise_iff_getElem.1 h i j hi hj (by omega)
  rw [e] at h1
  have h2 : L[i] ∉ L.take i := by
   intro hm
   obtain ⟨k, hk, ek⟩ := List.mem_iff_getElem.1 hm
   rw [List.getElem_take] at ek
   have := List.pairwise_iff_getElem.1 h k i (by simp at hk; omega) hi (by simp at hk; omega)
   rw [ek] at this
   exact ahead_irr _ this
  have h3 := ha L[i] (List.getElem_mem _) h2 (fun e' => by rw [e'] at h1; exact ahead_irr _ h1)
  exact absurd h1 (ahead_asym _ _ h3)
end greedy
structure Pc where
 core : Int
 off : Int
 len : Int
 c : Int
deriving DecidableEq
end Go.Proofs.YtnjphclbpgajpaaGreatDoor.Ma
namespace Go.Proofs.YtnjphclbpgajpaaGreatDoor.Ma
def Pc.ok (cores : Int) (p : Pc) : Bool := decide (0 ≤ p.core) && decide (p.core < cores) && (decide (0 ≤ p.off) && decide (p.off ≤ 200)) && (decide (1 ≤ p.c) && decide (p.c ≤ p.len) && decide (p.off + p.len ≤ 200))
theorem Pc.ok_iff {cores : Int} {p : Pc} : p.ok cores = true ↔ (0 ≤ p.core ∧ p.core < cores) ∧ (0 ≤ p.off ∧ p.off ≤ 200) ∧ 1 ≤ p.c ∧ p.c ≤ p.len ∧ p.off + p.len ≤ 200 := by
 simp [Pc.ok, and_assoc]
open Classical in
variable {cores lag move C D T : Int}
end Go.Proofs.YtnjphclbpgajpaaGreatDoor.Ma
namespace Go.Proofs.YtnjphclbpgajpaaGreatDoor.Ma
structure Inner (xs : List Int) (move : Int) (taken : List Bool) (j : Nat) (k : Int) : Prop where
 none : k < 0 → k = -1 ∧ ∀ m x, m < j → taken[m]? = some false → xs[m]? = some x → x ≤ move
 some : ¬ k < 0 → ∃ y, k < j ∧ taken[k.toNat]? = some false ∧ xs[k.toNat]? = some y ∧ move < y ∧ ∀ m x, m < j → (m : Int) ≠ k → taken[m]? = some false → xs[m]? = some x → move < x → x < y ∨ (x = y ∧ k < m)
theorem Inner.start (xs : List Int) (move : Int) (taken : List Bool) : Inner xs move taken 0 (-1) :=
 ⟨fun _ => ⟨rfl, fun m x h => absurd h (Nat.not_lt_zero m)⟩, fun h => absurd (by omega) h⟩
theorem Inner.skip {xs : List Int} {move : Int} {taken : List Bool} {j : Nat} {k : Int} (h : Inner xs move taken j k) {b : Bool} {x : Int} (hb : taken[j]? = Option.some b) (hx : xs[j]? = Option.some x)
  (hn : b = true ∨ x ≤ move ∨ (¬ k < 0 ∧ ∀ y, xs[k.toNat]? = Option.some y → x ≤ y)) : Inner xs move taken (j + 1) k := by
 refine ⟨fun hk => ⟨(h.none hk).1, fun m z hm hz hxm => ?_⟩, fun hk => ?_⟩
 ·by_cases e : m = j
  ·subst e
   rw [hb] at hz; rw [hx] at hxm
   injection hz with hz; injection hxm with hxm
   subst hz; subst hxm
   rcases hn with h1 | h1 | h1
   ·cases h1
   ·exact h1
   ·exact absurd hk h1.1
  ·exact (h.none hk).2 m z (by omega) hz hxm
 ·obtain ⟨y, h1, h2, h3, h4, h5⟩ := h.some hk
  refine ⟨y, by omega, h2, h3, h4, fun m z hm hmk hz hxm hmv => ?_⟩
  by_cases e : m = j
  ·subst e
   rw [hb] at hz; rw [hx] at hxm
   injection hz with hz; injection hxm with hxm
   subst hz; subst hxm
   rcases hn with h' | h' | h'
   ·cases h'
   ·omega
   ·have := h'.2 y h3; omega
  ·exact h5 m z (by omega) hmk hz hxm hmv
theorem Inner.take {xs : List Int} {move : Int} {taken : List Bool} {j : Nat} {k : Int} (h : Inner xs move taken j k) {x : Int} (hb : taken[j]? = Option.some false) (hx : xs[j]? = Option.some x) (hm : move < x)
  (hn : k < 0 ∨ ∃ y, xs[k.toNat]? = Option.some y ∧ y < x) : Inner xs move taken (j + 1) j := by
 refine ⟨fun hk => absurd hk (by omega), fun _ => ⟨x, by omega, by simpa using hb, by simpa using hx, hm, fun m z hmj hmk hz hxm hmv => ?_⟩⟩
 have hmj' : m < j := by omega
 rcases hn with hk | ⟨y, hy, hlt⟩
 ·have := (h.none hk).2 m z hmj' hz hxm; omega
 ·by_cases hk : k < 0
  ·have := (h.none hk).2 m z hmj' hz hxm; omega
  ·obtain ⟨y', h1, h2, h3, h4, h5⟩ := h.some hk
   rw [hy] at h3
   injection h3 with h3
   subst h3
   by_cases e : (m : Int) = k
   ·have e' : k.toNat = m := by omega
    rw [e', hxm] at hy
    injection hy with hy
    omega
   ·have := h5 m z hmj' e hz hxm hmv; omega
def ordered (move : Int) (xs : List Int) : List Place := isort ltX (places move xs)
theorem ordered_sorted {move : Int} {xs : List Int} : (ordered move xs).Pairwise Place.ahead := sortX _ places_sorted
theorem ordered_mem {move : Int} {xs : List Int} {p : Place} : p ∈ ordered move xs ↔ 0 ≤ p.core ∧ xs[p.core.toNat]? = some p.x ∧ move < p.x := by
 unfold ordered; rw [(isort_perm _ _).mem_iff, places_mem]
theorem ordered_length {move : Int} {xs : List Int} : (ordered move xs).length = (places move xs).length := isort_length _ _
structure Outer (xs : List Int) (move : Int) (i : Nat) (taken : List Bool) : Prop where
 len : taken.length = xs.length
 le : i ≤ (places move xs).length
 iff : ∀ m : Nat, taken[m]? = some true ↔ ∃ p, p ∈ (ordered move xs).take i ∧ p.core = m
theorem Outer.start (xs : List Int) (move : Int) : Outer xs move 0 (List.replicate xs.length false) := by
 refine ⟨by simp, Nat.zero_le _, fun m => ?_⟩
 simp [List.getElem?_replicate]
theorem Outer.false {xs : List Int} {move : Int} {i : Nat} {taken : List Bool} (h : Outer xs move i taken) {p : Place} (hp : p ∈ ordered move xs) (hn : p ∉ (ordered move xs).take i) : taken[p.core.toNat]? = some false := by
 have hm := ordered_mem.1 hp
 have hlt := (List.getElem?_eq_some_iff.1 hm.2.1).1
 rw [← h.len] at hlt
 rw [List.getElem?_eq_getElem hlt]
 cases hb : taken[p.core.toNat] with
 | false => rfl
 | true =>
  obtain ⟨q, hq, e⟩ := (h.iff p.core.toNat).1 (by rw [List.getElem?_eq_getElem hlt, hb])
  have hq' := ordered_mem.1 (List.mem_of_mem_take hq)
  have e1 : q.core = p.core := by omega
  have e2 : q.x = p.x := by have := hq'.2.1; rw [e1, hm.2.1] at this; injection this with h; exact h.symm
  have : q = p := by cases q; cases p; simp only [Place.mk.injEq] at *; exact ⟨e1, e2⟩
  subst this
  exact absurd hq hn
theorem Outer.next {xs : List Int} {move : Int} {i : Nat} {taken : List Bool} (h : Outer xs move i taken) {k : Int} (hi : Inner xs move taken xs.length k) (hk : ¬ k < 0) : Outer xs move (i + 1) (taken.set k.toNat true) := by
 obtain ⟨y, h1, h2, h3, h4, h5⟩ := hi.some hk
 have hp : (⟨k, y⟩ : Place) ∈ ordered move xs := ordered_mem.2 ⟨by simp only; omega, h3, h4⟩
 have hn : (⟨k, y⟩ : Place) ∉ (ordered move xs).take i := fun hm => by
  have := (h.iff k.toNat).2 ⟨_, hm, by simp only; omega⟩
  rw [h2] at this
  cases this
 have hL := greedy_some ordered_sorted hp hn fun q hq hnq hne => by
  have hm := ordered_mem.1 hq
  have hqk : q.core ≠ k := fun e => hne (by
   have := hm.2.1
   rw [e, h3] at this
   injection this with this
   cases q
   simp only [Place.mk.injEq] at *
   exact ⟨e, this.symm⟩)
  have := h5 q.core.toNat q.x (List.getElem?_eq_some_iff.1 hm.2.1).1 (by omega) (h.false hq hnq) hm.2.1 hm.2.2
  unfold Place.ahead
  simp only
  omega
 have hlt := (List.getElem?_eq_some_iff.1 hL).1
 rw [ordered_length] at hlt
 refine ⟨by rw [List.length_set]; exact h.len, hlt, fun m => ?_⟩
 have htk : (ordered move xs).take (i + 1) = (ordered move xs).take i ++ [⟨k, y⟩] := by rw [List.take_add_one, hL]; rfl
 rw [htk, List.getElem?_set]
 have hkl : k.toNat < taken.length := (List.getElem?_eq_some_iff.1 h2).1
 split
 ·rename_i e
  subst e
  exact ⟨fun _ => ⟨⟨k, y⟩, by simp, by simp only; omega⟩, fun _ => rfl⟩
 ·rename_i e
  rw [h.iff m]
  constructor
  ·rintro ⟨p, hp, e'⟩; exact ⟨p, by simp [hp], e'⟩
  ·rintro ⟨p, hp, e'⟩
   rcases List.mem_append.1 hp with hp | hp
   ·exact ⟨p, hp, e'⟩
   ·simp only [List.mem_singleton] at hp; subst hp; simp only at e'; omega
def takenTo (taken : List Bool) : Nat → List Int
 | 0 => []
 | j + 1 => if taken[j]? = some true then takenTo taken j ++ [(j : Int)] else takenTo taken j
theorem takenTo_mem {taken : List Bool} {j : Nat} {x : Int} : x ∈ takenTo taken j ↔ 0 ≤ x ∧ x < j ∧ taken[x.toNat]? = some true := by
 induction j with
 | zero => simp [takenTo]; omega
 | succ j ih =>
  have key : ∀ {A : Prop}, (x = (j : Int) → A) → (x ≠ (j : Int) → A) → A := fun h1 h2 => (Classical.em (x = (j : Int))).elim h1 h2
  simp only [takenTo]
  split
  ·rename_i h
   rw [List.mem_append, ih, List.mem_singleton]
   constructor
   ·rintro (⟨h1, h2, h3⟩ | rfl)
    ·exact ⟨h1, by omega, h3⟩
    ·exact ⟨by omega, by omega, by simpa using h⟩
   ·rintro ⟨h1, h2, h3⟩
    exact key (fun e => .inr e) fun e => .inl ⟨h1, by omega, h3⟩
  ·rename_i h
   rw [ih]
   constructor
   ·rintro ⟨h1, h2, h3⟩; exact ⟨h1, by omega, h3⟩
   ·rintro ⟨h1, h2, h3⟩
    refine key (fun e => ?_) fun e => ⟨h1, by omega, h3⟩
    subst e
    exact absurd (by simpa using h3) h
theorem takenTo_sorted {taken : List Bool} {j : Nat} : (takenTo taken j).Pairwise (· < ·) := by
 induction j with
 | zero => exact List.Pairwise.nil
 | succ j ih =>
  simp only [takenTo]
  split
  ·rw [List.pairwise_append]
   refine ⟨ih, by simp, fun a ha b hb => ?_⟩
   have := (takenTo_mem.1 ha).2.1
   simp only [List.mem_singleton] at hb
   omega
  ·exact ih
theorem Outer.end {xs : List Int} {move : Int} {n : Nat} {taken : List Bool} (h : Outer xs move n taken) : takenTo taken xs.length = (bestV (places move xs) n).map (·.core) := by
 refine asc_uniq _ _ takenTo_sorted (List.pairwise_map.2 (bestV_sorted places_sorted)) fun x => ?_
 rw [takenTo_mem, List.mem_map]
 have hb : bestV (places move xs) n = isort ltC ((ordered move xs).take n) := by unfold bestV; rw [if_neg (by have := h.le; omega)]; rfl
 rw [hb]
 constructor
 ·rintro ⟨h1, h2, h3⟩
  obtain ⟨p, hp, e⟩ := (h.iff x.toNat).1 h3
  exact ⟨p, (isort_perm _ _).mem_iff.2 hp, by omega⟩
 ·rintro ⟨p, hp, rfl⟩
  have hp := (isort_perm _ _).mem_iff.1 hp
  have hm := ordered_mem.1 (List.mem_of_mem_take hp)
  have hlt := (List.getElem?_eq_some_iff.1 hm.2.1).1
  exact ⟨hm.1, by omega, (h.iff _).2 ⟨p, hp, by omega⟩⟩
end Go.Proofs.YtnjphclbpgajpaaGreatDoor.Ma
namespace Go.Proofs.YtnjphclbpgajpaaGreatDoor.Vc
open Go.RowKit Ma
theorem maxLen_eq : maxLen = 9223372036854775807 := by decide
theorem clone48 (nl : Bool) (l : List Ld) (hnl : nl = true → l = []) (hl : l.length ≤ 1000) : PureCall Tryz.prog 137 [sL nl l] (.ow 3 nl (l.map eL)) := by
 have hm := maxLen_eq
 cases nl with
 | true =>
  have := hnl rfl
  subst this
  refine Fn.run k137 rfl ?_
  generalize Tryz.prog = P at *
  (repeat' ((conv => whnf); first | exact trivial | with_reducible refine zX ?_ | refine ⟨rfl, ?_⟩ | refine ⟨_, rfl, ?_⟩ | with_reducible refine zP ?_ | with_reducible refine zL ?_ | refine ⟨fun _ => ?_, fun _ => ?_⟩ | refine zn ?_ | refine zb rfl ?_ | refine zX ?_ | refine zo rfl ?_ | refine zs ?_ | intro _)); all_goals (try (conv => whnf))
  all_goals rfl
 | false =>
  refine Fn.run k137 rfl ?_
  generalize Tryz.prog = P at *
  (repeat' ((conv => whnf); first | exact trivial | with_reducible refine zX ?_ | refine ⟨rfl, ?_⟩ | refine ⟨_, rfl, ?_⟩ | with_reducible refine zP ?_ | with_reducible refine zL ?_ | refine ⟨fun _ => ?_, fun _ => ?_⟩ | refine zn ?_ | refine zb rfl ?_ | refine zX ?_ | refine zo rfl ?_ | refine zs ?_ | intro _)); all_goals (try (conv => whnf))
  all_goals rfl
theorem snoc (nl : Bool) (l : List Ld) (x : Ld) : PV.sl 3 nl (l.map eL ++ [eL x]) = sL nl (l ++ [x]) := by simp [sL]
theorem with92 (nl : Bool) (l : List Ld) (hnl : nl = true → l = []) (hl : l.length ≤ 1000) (x : Ld) : PureCall Tryz.prog 170 [sL nl l, eL x] (.p (.bool (fitsB (l ++ [x])))) := by
 have hm := maxLen_eq
 have hc := clone48 nl l hnl hl
 have hf := fits47 false (l ++ [x])
 rw [← snoc] at hf
 cases nl with
 | true =>
  refine Fn.run k170 rfl ?_
  generalize Tryz.prog = P at *
  (repeat' ((conv => whnf); first | exact trivial | with_reducible refine zX ?_ | refine ⟨rfl, ?_⟩ | refine ⟨_, rfl, ?_⟩ | with_reducible refine zP ?_ | with_reducible refine zL ?_ | refine ⟨fun _ => ?_, fun _ => ?_⟩ | refine zn ?_ | refine zb rfl ?_ | refine zX ?_ | refine zo rfl ?_ | refine zs ?_ | intro _)); all_goals (try (conv => whnf))
  all_goals rfl
 | false =>
  refine Fn.run k170 rfl ?_
  generalize Tryz.prog = P at *
  (repeat' ((conv => whnf); first | exact trivial | with_reducible refine zX ?_ | refine ⟨rfl, ?_⟩ | refine ⟨_, rfl, ?_⟩ | with_reducible refine zP ?_ | with_reducible refine zL ?_ | refine ⟨fun _ => ?_, fun _ => ?_⟩ | refine zn ?_ | refine zb rfl ?_ | refine zX ?_ | refine zo rfl ?_ | refine zs ?_ | intro _)); all_goals (try (conv => whnf))
  all_goals rfl
structure Sec where
 res : Int
 at_ : Int
 len : Int
deriving DecidableEq
structure Tk where
 C : Int
 D : Int
 T : Int
 nl : Bool
 secs : List Sec
theorem may91 (nl : Bool) (l : List Ld) (d t : Int) : PureCall Tryz.prog 169 [sL nl l, .int .i64 d, .int .i64 t] (.p (.bool (mayM l d t))) := by
 have hf := fits47 nl l
 refine Fn.run k169 rfl ?_
 generalize Tryz.prog = P at *
 (repeat' ((conv => whnf); first | exact trivial | with_reducible refine zX ?_ | refine ⟨rfl, ?_⟩ | refine ⟨_, rfl, ?_⟩ | with_reducible refine zP ?_ | with_reducible refine zL ?_ | refine ⟨fun _ => ?_, fun _ => ?_⟩ | refine zn ?_ | refine zb rfl ?_ | refine zX ?_ | refine zo rfl ?_ | refine zs ?_ | intro _)); all_goals (try (conv => whnf))
 all_goals (refine bool_end (Bool.eq_iff_iff.2 ?_); simp only [mayM, List.length_map, Bool.and_eq_true, Bool.or_eq_true, Bool.and_eq_false_iff, Bool.or_eq_false_iff, decide_eq_true_eq, decide_eq_false_iff_not, Bool.not_eq_true', Bool.not_eq_false', Bool.false_eq_true, Bool.true_eq_false, Bool.not_true, Bool.not_false, ge_iff_le, gt_iff_lt] at *; first | done | omega | (simp only [false_iff]; omega) | (simp only [true_iff]; omega) | grind)
theorem fit72 (nl : Bool) (l : List Ld) (hnl : nl = true → l = []) (hll : l.length ≤ 1000) (d t m : Int) (hm0 : -1000000 ≤ m) : PureCall Tryz.prog 130 [sL nl l, .int .i64 d, .int .i64 t, .int .i64 m] (.p (.int .i64 (mostV l d t m))) := by
 have hmay := may91 nl l d t
 unfold mostV
 cases hM : mayM l d t with
 | false =>
  rw [hM] at hmay
  refine Fn.run k130 rfl ?_
  generalize Tryz.prog = P at *
  (repeat' ((conv => whnf); first | exact trivial | with_reducible refine zX ?_ | refine ⟨rfl, ?_⟩ | refine ⟨_, rfl, ?_⟩ | with_reducible refine zP ?_ | with_reducible refine zL ?_ | refine ⟨fun _ => ?_, fun _ => ?_⟩ | refine zn ?_ | refine zb rfl ?_ | refine zX ?_ | refine zo rfl ?_ | refine zs ?_ | intro _)); all_goals (try (conv => whnf))
  all_goals exact int_end (by simp)
 | true =>
  rw [hM] at hmay
  have hw := fun c => with92 nl l hnl hll ⟨c, d, t⟩
  simp only [eL] at hw
  have hd : 1 ≤ d ∧ d ≤ 200 := by
   simp only [mayM, Bool.and_eq_true, decide_eq_true_eq] at hM
   omega
  obtain ⟨s1, s2, s3, s4⟩ := mostDown_spec l d t (min m d).toNat
  rw [if_pos rfl]
  generalize hV : mostDown l d t (min m d).toNat = V at *
  have hmn : (if d < m then d else m) = min m d := by split <;> omega
  refine Fn.run k130 rfl ?_
  generalize Tryz.prog = P at *
  (repeat' ((conv => whnf); first | exact trivial | with_reducible refine zX ?_ | refine ⟨rfl, ?_⟩ | refine ⟨_, rfl, ?_⟩ | with_reducible refine zP ?_ | with_reducible refine zL ?_ | refine ⟨fun _ => ?_, fun _ => ?_⟩ | refine zn ?_ | refine zb rfl ?_ | refine zX ?_ | refine zo rfl ?_ | refine zs ?_ | intro _)); all_goals (try (conv => whnf))
  refine loop_inv (fun n s => ∃ lo hi : Int, n = (hi - lo).toNat ∧ 0 ≤ lo ∧ hi ≤ min m d ∧ (lo = 0 ∨ fitW l lo d t = true) ∧ lo ≤ V ∧ (V ≤ hi ∨ (V = 0 ∧ lo = 0)) ∧
   s = ⟨mkT 40 [(0, .p (sL nl l)), (1, .p (.int .i64 d)), (2, .p (.int .i64 t)), (9, .p (.int .i64 lo)), (10, .p (.int .i64 hi))], []⟩) (min m d).toNat ?_ ?_
  ·conv => whnf
   refine ⟨0, min m d, by omega, Int.le_refl _, Int.le_refl _, .inl rfl, s1, by omega, ?_⟩
   rw [← hmn]; rfl
  ·rintro n st b N ⟨lo, hi, hn, h0, h1, h2, h3, h4, e⟩ hN
   cases e
   by_cases hlt : lo < hi
   ·have hb : decide (lo < hi) = true := decide_eq_true hlt
    have e1 : IntKind.wrap .i64 (hi - lo) = hi - lo := wrapE (by omega) (by omega)
    have e2 : IntKind.wrap .i64 (hi - lo + 1) = hi - lo + 1 := wrapE (by omega) (by omega)
    have hq : 1 ≤ (hi - lo + 1) / 2 ∧ (hi - lo + 1) / 2 ≤ hi - lo := by omega
    have e3 : IntKind.wrap .i64 ((hi - lo + 1).tdiv 2) = (hi - lo + 1) / 2 := by
     rw [Int.tdiv_eq_ediv_of_nonneg (by omega)]; exact wrapE (by omega) (by omega)
    have e4 : IntKind.wrap .i64 (lo + (hi - lo + 1) / 2) = lo + (hi - lo + 1) / 2 := wrapE (by omega) (by omega)
    have hc := hw (IntKind.wrap .i64 (lo + IntKind.wrap .i64 ((IntKind.wrap .i64 (IntKind.wrap .i64 (hi - lo) + 1)).tdiv 2)))
    have hg : IntKind.wrap .i64 (lo + IntKind.wrap .i64 ((IntKind.wrap .i64 (IntKind.wrap .i64 (hi - lo) + 1)).tdiv 2)) = lo + (hi - lo + 1) / 2 := by rw [e1, e2, e3, e4]
    (repeat' ((conv => whnf); first | exact trivial | with_reducible refine zX ?_ | refine ⟨rfl, ?_⟩ | refine ⟨_, rfl, ?_⟩ | with_reducible refine zP ?_ | with_reducible refine zL ?_ | refine ⟨fun _ => ?_, fun _ => ?_⟩ | refine zn ?_ | refine zb rfl ?_ | refine zX ?_ | refine zo rfl ?_ | refine zs ?_ | intro _)); all_goals (try (conv => whnf))
    ·rename_i e
     rw [hg] at e ⊢
     have hcV : lo + (hi - lo + 1) / 2 ≤ V := by
      refine Int.not_lt.1 fun hlt2 => ?_
      have := s4 _ hlt2 (by omega)
      unfold fitW at this
      rw [e] at this; cases this
     exact hN _ _ (by omega) ⟨lo + (hi - lo + 1) / 2, hi, rfl, by omega, h1, .inr e, hcV, by omega, rfl⟩
    ·rename_i e
     rw [hg] at e ⊢
     rw [wrapE (n := lo + (hi - lo + 1) / 2 - 1) (by omega) (by omega)]
     have hcV : V < lo + (hi - lo + 1) / 2 := by
      refine Int.not_le.1 fun hle => ?_
      have := fitW_less (s3 (by omega)) (c' := lo + (hi - lo + 1) / 2) (by omega) hle
      unfold fitW at this
      rw [e] at this; cases this
     exact hN _ _ (by omega) ⟨lo, lo + (hi - lo + 1) / 2 - 1, rfl, h0, by omega, h2, h3, by omega, rfl⟩
   ·have hb : decide (lo < hi) = false := decide_eq_false hlt
    (repeat' ((conv => whnf); first | exact trivial | with_reducible refine zX ?_ | refine ⟨rfl, ?_⟩ | refine ⟨_, rfl, ?_⟩ | with_reducible refine zP ?_ | with_reducible refine zL ?_ | refine ⟨fun _ => ?_, fun _ => ?_⟩ | refine zn ?_ | refine zb rfl ?_ | refine zX ?_ | refine zo rfl ?_ | refine zs ?_ | intro _)); all_goals (try (conv => whnf))
    exact int_end (by omega)
theorem eL_mk (c d t : Int) : eL ⟨c, d, t⟩ = .agg [.int .i64 c, .int .i64 d, .int .i64 t] := rfl
theorem tight79 (nl : Bool) (l : List Ld) (hnl : nl = true → l = []) (hll : l.length ≤ 1000) (t m : Int) : PureCall Tryz.prog 135 [sL nl l, .int .i64 t, .int .i64 m] (.p (.int .i64 (tightV l t m))) := by
 have hmay := may91 nl l t t
 unfold tightV
 cases hM : mayM l t t with
 | false =>
  rw [hM] at hmay
  refine Fn.run k135 rfl ?_
  generalize Tryz.prog = P at *
  (repeat' ((conv => whnf); first | exact trivial | with_reducible refine zX ?_ | refine ⟨rfl, ?_⟩ | refine ⟨_, rfl, ?_⟩ | with_reducible refine zP ?_ | with_reducible refine zL ?_ | refine ⟨fun _ => ?_, fun _ => ?_⟩ | refine zn ?_ | refine zb rfl ?_ | refine zX ?_ | refine zo rfl ?_ | refine zs ?_ | intro _)); all_goals (try (conv => whnf))
  all_goals exact int_end (by simp)
 | true =>
  have hM' := hM
  simp only [mayM, Bool.and_eq_true, decide_eq_true_eq] at hM'
  obtain ⟨p1, p2, p3, p4, p5⟩ := hM'
  rw [hM] at hmay
  have hw := fun c d => with92 nl l hnl hll ⟨c, d, t⟩
  simp only [eL_mk] at hw
  rw [if_pos rfl]
  have hmn : (if t < m then t else m) = min m t := by split <;> omega
  refine Fn.run k135 rfl ?_
  generalize Tryz.prog = P at *
  (repeat' ((conv => whnf); first | exact trivial | with_reducible refine zX ?_ | refine ⟨rfl, ?_⟩ | refine ⟨_, rfl, ?_⟩ | with_reducible refine zP ?_ | with_reducible refine zL ?_ | refine ⟨fun _ => ?_, fun _ => ?_⟩ | refine zn ?_ | refine zb rfl ?_ | refine zX ?_ | refine zo rfl ?_ | refine zs ?_ | intro _)); all_goals (try (conv => whnf))
  refine loop_inv (fun n s => ∃ c : Int, n = (min m t - c).toNat ∧ 0 ≤ c ∧ c ≤ 200 ∧ tightUp l t n c = tightUp l t (min m t).toNat 0 ∧
   s = ⟨mkT 31 [(0, .p (sL nl l)), (1, .p (.int .i64 t)), (2, .p (.int .i64 m)), (7, .p (.int .i64 c))], []⟩) (min m t).toNat ?_ ?_
  ·conv => whnf
   exact ⟨0, by omega, Int.le_refl _, by omega, rfl, rfl⟩
  ·rintro n st b N ⟨c, hn, h0, h1, h2, e⟩ hN
   cases e
   have hcw : IntKind.wrap .i64 (c + 1) = c + 1 := wrapE (by omega) (by omega)
   by_cases hlt : c < (if t < m then t else m)
   ·have hb : decide (c < (if t < m then t else m)) = true := decide_eq_true hlt
    rw [hmn] at hlt
    have hc := hw (IntKind.wrap .i64 (c + 1)) (IntKind.wrap .i64 (c + 1))
    have hn1 : n = (min m t - (c + 1)).toNat + 1 := by omega
    rw [hn1] at h2
    simp only [tightUp] at h2
    (repeat' ((conv => whnf); first | exact trivial | with_reducible refine zX ?_ | refine ⟨rfl, ?_⟩ | refine ⟨_, rfl, ?_⟩ | with_reducible refine zP ?_ | with_reducible refine zL ?_ | refine ⟨fun _ => ?_, fun _ => ?_⟩ | refine zn ?_ | refine zb rfl ?_ | refine zX ?_ | refine zo rfl ?_ | refine zs ?_ | intro _)); all_goals (try (conv => whnf))
    ·rename_i e
     rw [hcw] at e ⊢
     unfold fitW at h2
     rw [if_pos e] at h2
     exact hN _ _ (by omega) ⟨c + 1, rfl, by omega, by omega, h2, rfl⟩
    ·rename_i e
     rw [hcw] at e
     unfold fitW at h2
     rw [if_neg (by rw [e]; decide)] at h2
     exact int_end h2
   ·have hb : decide (c < (if t < m then t else m)) = false := decide_eq_false hlt
    rw [hmn] at hlt
    have hn0 : n = 0 := by omega
    subst hn0
    (repeat' ((conv => whnf); first | exact trivial | with_reducible refine zX ?_ | refine ⟨rfl, ?_⟩ | refine ⟨_, rfl, ?_⟩ | with_reducible refine zP ?_ | with_reducible refine zL ?_ | refine ⟨fun _ => ?_, fun _ => ?_⟩ | refine zn ?_ | refine zb rfl ?_ | refine zX ?_ | refine zo rfl ?_ | refine zs ?_ | intro _)); all_goals (try (conv => whnf))
    exact int_end h2
end Go.Proofs.YtnjphclbpgajpaaGreatDoor.Vc
namespace Go.Proofs.YtnjphclbpgajpaaGreatDoor.Vc
open Go.RowKit Ma
structure Cf where
 cores : Int
 syncs : Int
 lag : Int
 move : Int
 nl : Bool
 res : List Int
def badR (syncs a : Int) : Bool := decide (a < 0) || decide (a ≥ syncs)
def headR (c : Cf) : Prop := (1 ≤ c.cores ∧ c.cores ≤ 6) ∧ (0 ≤ c.syncs ∧ c.syncs ≤ 3) ∧ (0 ≤ c.lag ∧ c.lag ≤ 5) ∧ (0 ≤ c.move ∧ c.move ≤ 5)
instance (c : Cf) : Decidable (headR c) := inferInstanceAs (Decidable (_ ∧ _))
def Cf.ok (c : Cf) : Bool := decide (headR c) && (decide (c.res.length ≤ 6) && !c.res.any (badR c.syncs))
def secsB (nres C : Int) : Int → List Sec → Bool
 | _, [] => true
 | last, s :: ss => decide (0 ≤ s.res) && (decide (s.res < nres) && (decide (1 ≤ s.len) && (decide (s.len ≤ 200) && (decide (last < s.at_) && (decide (s.at_ < C) && secsB nres C s.at_ ss)))))
def headT (t : Tk) : Prop := 1 ≤ t.C ∧ t.C ≤ t.D ∧ t.D ≤ t.T ∧ t.T ≤ 200 ∧ t.secs.length ≤ 2
instance (t : Tk) : Decidable (headT t) := inferInstanceAs (Decidable (_ ∧ _))
def Tk.ok (nres : Int) (t : Tk) : Bool := decide (headT t) && secsB nres t.C 0 t.secs
end Go.Proofs.YtnjphclbpgajpaaGreatDoor.Vc
namespace Go.Proofs.YtnjphclbpgajpaaGreatDoor.Vc
open Go.RowKit Ma
section
variable {P : Program}
end
theorem u4 : Tryz.prog.underlying 4 = some .bool := by kernel_rfl
theorem s3 : isS Tryz.prog 3 = false := by kernel_rfl
theorem c3 : Tryz.prog.cellsOf 3 = 1 := by kernel_rfl
end Go.Proofs.YtnjphclbpgajpaaGreatDoor.Vc
namespace Go.Proofs.YtnjphclbpgajpaaGreatDoor.Vc
open Go.RowKit Go.ChangeShapes Go.WideShapes Go.ChangeAt Ma
def laidA : List (String × DataW Unit) := [("math/bits.deBruijn32tab", Rows.laid_math_bits_deBruijn32tab), ("math/bits.deBruijn64tab", Rows.laid_math_bits_deBruijn64tab), ("internal/strconv.uint64pow10", Rows.laid_internal_strconv_uint64pow10),
 ("unicode/utf8.acceptRanges", Rows.laid_unicode_utf8_acceptRanges), ("strconv.ErrRange", Rows.laid_strconv_ErrRange), ("strconv.ErrSyntax", Rows.laid_strconv_ErrSyntax), ("unicode/utf8.first", Rows.laid_unicode_utf8_first)]
theorem laid_plain : ∀ w : World, laidMetH Tryz.prog laidA w = laidMet Tryz.prog laidA w := fun w => MakeChecks.laidMetH_plain _ _ _ (by kernel_rfl)
theorem door_met (os : Os) (args : Array Value) : laidMetH Tryz.prog laidA ((World.laidAll Tryz.prog os laidA).forCall (fun _ _ => 0) ⟨#[], args, []⟩).memory := by
 rw [laid_plain]; exact laidMet_laidAll _ (by kernel_rfl) (by kernel_rfl)
theorem and_tt {a b : Bool} (h : a = true) (k : b = true) : (a && b) = true := by rw [h, k]; rfl
abbrev mainSum : String := "aada39efcd2bae9a899bb5c456762e7237047e2d7d47480e4901f2fc647950d7"
theorem mainIs0 : Tryz.prog.mainIs = some (true, mainSum.toList) := by kernel_rfl
theorem looks0 : true = Tryz.prog.looks [] := by kernel_rfl
theorem own0 : ownKnob Tryz.prog.godebug = none := by kernel_rfl
theorem s2 : isS Tryz.prog 2 = false := by kernel_rfl
theorem s4 : isS Tryz.prog 4 = false := by kernel_rfl
section
variable {H : Type} {enc : TypeId × Value → H} {P : Program} {w : World} {base : Nat} {spare : Nat → Bool} {held : Bool}
theorem trodN {vs : List Value} {ds : List (DataW H)} {ps : List MemPlace} (h : DataW.TrodAll enc P w base spare held [] vs ds ps) : vs = [] ∧ ds = [] ∧ ps = [] := by
 cases vs with
 | nil => cases ds with
  | nil => exact ⟨rfl, rfl, h⟩
  | cons d ds' => exact h.elim
 | cons v vs' => exact h.elim
end
theorem shutB {H : Type} {enc : TypeId × Value → H} {w : World} {base : Nat} {sp : Nat → Bool} {hd : Bool} (b : Bool) : DataW.Trod enc Tryz.prog w base sp hd 4 (.bool b) (.lit (.bool b)) [] := ⟨1, by simp [DataW.trod, Value.cells, u4]⟩
theorem pure_calls {P : Program} {f : FuncId} {args : List PV} {r : DV} (h : PureCall P f args r) (hf : FnOK P f) (M0 : Nat → Nat → Prop) (w : World) (cargs : Array Value) (hs : cargs.size = args.length)
  (ha : ∀ (j : Nat) x v, args[j]? = some x → cargs[j]? = some v → Flat M0 w x v) :
  Calls P f cargs w fun e w' => ∃ v X, e = .returned v ∧ X.w = w' ∧ VRel X w.heap.size (.tmp 0) r v ∧ (∀ b, b < w.heap.size → ∀ o, X.M b o ↔ M0 b o) ∧ Below w.heap.size w w' := by
 rcases h.2 M0 w cargs hs ha with ⟨_, hc⟩ | ⟨v, X, hr, _⟩
 ·exact hc
 ·exfalso
  obtain ⟨fn, h1, h2, h3⟩ := hf
  have h4 : fn.body ≠ none := fun hb => by rw [hb] at h2; cases h2
  simp [callFunc, h1, h3, h4] at hr
end Go.Proofs.YtnjphclbpgajpaaGreatDoor.Vc
namespace Go.Proofs.YtnjphclbpgajpaaGreatDoor.Vc
open Go.RowKit
variable {P : Program}
theorem zO {f : FuncId} {args : List DV} {bs : List Box} {G K : List (Option Box) → DV → Prop} {bs' : List (Option Box)} {r : DV} (k : K bs' r) (h : OCall P f args bs bs' r := by assumption)
  (g : G bs' r := by first | exact .inr rfl | exact .inl rfl) : ∃ bs' r, OCall P f args bs bs' r ∧ G bs' r ∧ K bs' r := ⟨bs', r, h, g, k⟩
theorem andT {a b : Bool} (ha : a = true) (hb : b = true) : (a && b) = true := by rw [ha, hb]; rfl
theorem orR {a b : Bool} (hb : b = true) : (a || b) = true := by rw [hb]; cases a <;> rfl
theorem zT {b : Bool} {A : Prop} (k : A) (h : b = true := by (repeat' first | refine andT ?_ ?_ | exact noRefR_dvss _ _ | exact noRefR_zipR _ _ _ | exact rfl | refine noRefR_setL ?_ ?_ | refine orR ?_)) : testB.match_1 (fun _ => Prop) b (fun _ => A) (fun _ => False) := by subst h; exact k
end Go.Proofs.YtnjphclbpgajpaaGreatDoor.Vc
namespace Go.Proofs.YtnjphclbpgajpaaGreatDoor.Vc
open Go.RowKit
def T28 : Fn := ⟨23, 1, [.tmp 6],
 (.gh (.lay 1 1) (.seq
 (.reg [mc 6 (.bool false)])
 (.seq
 (.gp (.gp (.gp (.reg [mv 7 0,
 ii 8 (.ob (.eqp true)) [.t 7, .c (.p (.atom (.pointer none)))],
 mt 9 8,
 gt 10 9 (.mov false) [.t 1],
 gt 11 9 (.bin .geq) [.t 10, .c (.p (.int .i64 1))],
 ii 12 .pick [.t 9, .t 11, .c (.p (.bool false))],
 mt 13 12,
 gt 14 13 (.mov true) [.t 0],
 gt 15 13 .nilchk [.t 14],
 gt 16 13 (.fad 0) [.t 15],
 gt 17 13 (.ob (.ldo 0 false)) [.t 16],
 gt 18 13 (.mov false) [.t 1],
 gt 19 13 (.mov true) [.t 2],
 gt 20 13 (.mov true) [.t 1],
 gt 21 13 (.ob (.callo 55 false)) [.t 17, .t 18, .t 19, .t 20],
 ii 22 .pick [.t 13, .t 21, .c (.p (.bool false))],
 mt 6 22]) (.shut (.t 0) 0)) (.forget [17])) (.lay 1 1))
 .ret)))⟩
theorem h28 : chkF Tryz.prog 28 T28 = true := by kernel_rfl
def T29 : Fn := ⟨15, 1, [.tmp 4],
 (.gh (.lay 1 1) (.seq
 (.reg [mc 4 (.bool false)])
 (.seq
 (.gp (.gp (.gp (.reg [mv 5 0,
 ii 6 (.ob (.eqp true)) [.t 5, .c (.p (.atom (.pointer none)))],
 mt 7 6,
 gt 8 7 (.mov true) [.t 0],
 gt 9 7 .nilchk [.t 8],
 gt 10 7 (.fad 0) [.t 9],
 gt 11 7 (.ob (.ldo 0 false)) [.t 10],
 gt 12 7 (.mov true) [.t 1],
 gt 13 7 (.ob (.callo 56 false)) [.t 11, .t 12],
 ii 14 .pick [.t 7, .t 13, .c (.p (.bool false))],
 mt 4 14]) (.shut (.t 0) 0)) (.forget [11])) (.lay 1 1))
 .ret)))⟩
theorem h29 : chkF Tryz.prog 29 T29 = true := by kernel_rfl
def T30 : Fn := ⟨16, 1, [.tmp 2],
 (.gh (.lay 1 1) (.seq
 (.reg [mc 2 (.int .i64 0)])
 (.seq
 (.seq
 (.reg [mv 5 0,
 ii 6 (.ob (.eqp false)) [.t 5, .c (.p (.atom (.pointer none)))]])
 (.cond (.t 6)
 (.seq
 (.reg [mc 2 (.int .i64 0)])
 .ret)
 .skip))
 (.seq
 (.gp (.gp (.gp (.reg [mt 8 0,
 ii 9 .nilchk [.t 8],
 fa 10 0 9,
 ii 11 (.ob (.ldo 0 false)) [.t 10],
 ii 12 (.ob (.callo 57 false)) [.t 11],
 mt 7 12,
 ii 13 (.ext 0) [.t 7],
 ii 14 (.ext 1) [.t 7],
 mt 3 13,
 mt 4 14]) (.shut (.t 0) 0)) (.forget [11])) (.lay 1 1))
 (.seq
 (.reg [mt 15 3,
 mt 2 15])
 .ret)))))⟩
theorem h30 : chkF Tryz.prog 30 T30 = true := by kernel_rfl
def T31 : Fn := ⟨10, 1, [.tmp 2],
 (.gh (.lay 1 1) (.seq
 (.reg [mc 2 (.int .i64 0)])
 (.seq
 (.seq
 (.reg [mv 3 0,
 ii 4 (.ob (.eqp false)) [.t 3, .c (.p (.atom (.pointer none)))]])
 (.cond (.t 4)
 (.seq
 (.reg [mc 2 (.int .i64 0)])
 .ret)
 .skip))
 (.seq
 (.gp (.gp (.gp (.reg [mt 5 0,
 ii 6 .nilchk [.t 5],
 fa 7 0 6,
 ii 8 (.ob (.ldo 0 false)) [.t 7],
 ii 9 (.ob (.callo 58 false)) [.t 8],
 mt 2 9]) (.shut (.t 0) 0)) (.forget [8])) (.lay 1 1))
 .ret))))⟩
theorem h31 : chkF Tryz.prog 31 T31 = true := by kernel_rfl
def T37 : Fn := ⟨33, 1, [.tmp 6],
 (.gh (.lay 1 3) (.seq
 (.reg [mc 6 (.bool false)])
 (.seq
 (.gp (.gp (.gp (.reg [mv 7 0,
 ii 8 (.ob (.eqp true)) [.t 7, .c (.p (.atom (.pointer none)))],
 mt 9 8,
 gt 10 9 (.mov false) [.t 1],
 gt 11 9 (.bin .geq) [.t 10, .c (.p (.int .i64 1))],
 ii 12 .pick [.t 9, .t 11, .c (.p (.bool false))],
 mt 13 12,
 gt 14 13 (.mov false) [.t 2],
 gt 15 13 (.bin .geq) [.t 14, .c (.p (.int .i64 1))],
 ii 16 .pick [.t 13, .t 15, .c (.p (.bool false))],
 mt 17 16,
 gt 18 17 (.mov false) [.t 0],
 gt 19 17 (.mov false) [.t 1],
 gt 20 17 (.ob (.callo 70 false)) [.t 18, .t 19],
 gt 21 17 (.un .not) [.t 20],
 ii 22 .pick [.t 17, .t 21, .c (.p (.bool false))],
 mt 23 22,
 gt 24 23 (.mov true) [.t 0],
 gt 25 23 .nilchk [.t 24],
 gt 26 23 (.fad 0) [.t 25],
 gt 27 23 (.ob (.ldo 0 false)) [.t 26],
 gt 28 23 (.mov true) [.t 1],
 gt 29 23 (.mov true) [.t 2],
 ⟨some 30, (some (23, true)), .build [.int .i64 0, .int .i64 0] [(0, 1), (1, 1)], [.t 28, .t 29]⟩,
 gt 31 23 (.ob (.callo 71 false)) [.t 27, .t 30],
 ii 32 .pick [.t 23, .t 31, .c (.p (.bool false))],
 mt 6 32]) (.shut (.t 0) 0)) (.forget [27])) (.lay 1 3))
 .ret)))⟩
theorem h37 : chkF Tryz.prog 37 T37 = true := by kernel_rfl
def T38 : Fn := ⟨52, 1, [.tmp 2, .tmp 3],
 (.gh (.lay 1 3) (.seq
 (.reg [mc 2 (.int .i64 0),
 mc 3 (.bool false)])
 (.seq
 (.seq
 (.reg [mv 5 0,
 ii 6 (.ob (.eqp false)) [.t 5, .c (.p (.atom (.pointer none)))]])
 (.cond (.t 6)
 (.seq
 (.reg [mc 2 (.int .i64 0),
 mc 3 (.bool false)])
 .ret)
 .skip))
 (.seq
 (.seq
 (.reg [mv 7 0,
 ii 8 .nilchk [.t 7],
 fa 9 1 8,
 fa 10 0 9,
 ld 11 10,
 b1 12 .eql 11 (.int .i64 0)])
 (.cond (.t 12)
 (.gp (.gp (.gp (.reg [mv 14 0,
 mv 15 0,
 ii 16 .nilchk [.t 15],
 fa 17 0 16,
 ii 18 (.ob (.ldo 0 false)) [.t 17],
 ii 19 (.ob (.callo 72 false)) [.t 18],
 mt 13 19,
 ii 20 (.ext 0) [.t 13],
 ii 21 (.ext 1) [.t 13],
 ii 22 .nilchk [.t 14],
 fa 23 1 22,
 ⟨none, none, .store 2, [.t 23, .t 20]⟩]) (.shut (.t 0) 0)) (.forget [18])) (.lay 1 3))
 .skip))
 (.seq
 (.reg [mv 24 0,
 ii 25 .nilchk [.t 24],
 fa 26 1 25,
 fa 27 0 26,
 ld 28 27,
 mt 4 28])
 (.seq
 (.seq
 (.reg [mv 29 4,
 b1 30 .eql 29 (.int .i64 0)])
 (.cond (.t 30)
 (.seq
 (.reg [mc 2 (.int .i64 0),
 mc 3 (.bool false)])
 .ret)
 .skip))
 (.seq
 (.gp (.reg [mv 31 0,
 ii 32 .nilchk [.t 31],
 fa 33 1 32,
 fa 34 1 33,
 ld 35 34,
 b1 36 .sub 35 (.int .i64 1),
 ii 37 .nilchk [.t 31],
 fa 38 1 37,
 fa 39 1 38,
 ⟨none, none, .store 1, [.t 39, .t 36]⟩]) (.lay 1 3))
 (.seq
 (.seq
 (.reg [mv 40 0,
 ii 41 .nilchk [.t 40],
 fa 42 1 41,
 fa 43 1 42,
 ld 44 43,
 b1 45 .gtr 44 (.int .i64 0)])
 (.cond (.t 45)
 (.seq
 (.reg [mt 46 4,
 mt 2 46,
 mc 3 (.bool false)])
 .ret)
 .skip))
 (.seq
 (.gp (.reg [mt 47 0,
 ⟨some 48, none, .build [.int .i64 0, .int .i64 0] [], []⟩,
 ii 49 .nilchk [.t 47],
 fa 50 1 49,
 ⟨none, none, .store 2, [.t 50, .t 48]⟩]) (.lay 1 3))
 (.seq
 (.reg [mt 51 4,
 mt 2 51,
 mc 3 (.bool true)])
 .ret))))))))))⟩
theorem h38 : chkF Tryz.prog 38 T38 = true := by kernel_rfl
def T39 : Fn := ⟨10, 0, [.tmp 2],
 (.gh (.lay 0 3) (.seq
 (.reg [mc 2 (.int .i64 0)])
 (.seq
 (.seq
 (.reg [mv 3 0,
 ii 4 (.ob (.eqp false)) [.t 3, .c (.p (.atom (.pointer none)))]])
 (.cond (.t 4)
 (.seq
 (.reg [mc 2 (.int .i64 0)])
 .ret)
 .skip))
 (.seq
 (.reg [mt 5 0,
 ii 6 .nilchk [.t 5],
 fa 7 1 6,
 fa 8 0 7,
 ld 9 8,
 mt 2 9])
 .ret))))⟩
theorem h39 : chkF Tryz.prog 39 T39 = true := by kernel_rfl
def T40 : Fn := ⟨10, 1, [.tmp 2],
 (.gh (.lay 1 3) (.seq
 (.reg [mc 2 (.int .i64 0)])
 (.seq
 (.seq
 (.reg [mv 3 0,
 ii 4 (.ob (.eqp false)) [.t 3, .c (.p (.atom (.pointer none)))]])
 (.cond (.t 4)
 (.seq
 (.reg [mc 2 (.int .i64 0)])
 .ret)
 .skip))
 (.seq
 (.gp (.gp (.gp (.reg [mt 5 0,
 ii 6 .nilchk [.t 5],
 fa 7 0 6,
 ii 8 (.ob (.ldo 0 false)) [.t 7],
 ii 9 (.ob (.callo 73 false)) [.t 8],
 mt 2 9]) (.shut (.t 0) 0)) (.forget [8])) (.lay 1 3))
 .ret))))⟩
theorem h40 : chkF Tryz.prog 40 T40 = true := by kernel_rfl
end Go.Proofs.YtnjphclbpgajpaaGreatDoor.Vc
namespace Go.Proofs.YtnjphclbpgajpaaGreatDoor.Vc
open Go.RowKit
def T33 : Fn := ⟨48, 4, [.tmp 4],
 (.gh (.lay 4 3) (.seq
 (.reg [ii 3 (.box 0 5) [.t 1],
 mc 4 (.bool false)])
 (.seq
 (.seq
 (.reg [mv 7 0,
 ii 8 (.ob (.eqp false)) [.t 7, .c (.p (.atom (.pointer none)))],
 mt 9 8,
 gf 10 9 (.fad 1) [.t 3],
 gf 11 9 (.load 1 false false) [.t 10],
 gf 12 9 (.bin .lss) [.t 11, .c (.p (.int .i64 1))],
 ii 13 .pick [.t 9, .c (.p (.bool true)), .t 12],
 mt 14 13,
 gf 15 14 (.fad 1) [.t 3],
 gf 16 14 (.load 1 false false) [.t 15],
 gf 17 14 (.bin .gtr) [.t 16, .c (.p (.int .i64 12))],
 ii 18 .pick [.t 14, .c (.p (.bool true)), .t 17],
 mt 19 18,
 gf 20 19 (.fad 0) [.t 3],
 gf 21 19 (.load 1 false false) [.t 20],
 gf 22 19 (.bin .lss) [.t 21, .c (.p (.int .i64 1))],
 ii 23 .pick [.t 19, .c (.p (.bool true)), .t 22],
 mt 24 23,
 gf 25 24 (.fad 0) [.t 3],
 gf 26 24 (.load 1 false false) [.t 25],
 gf 27 24 (.bin .gtr) [.t 26, .c (.p (.int .i64 3))],
 ii 28 .pick [.t 24, .c (.p (.bool true)), .t 27]])
 (.cond (.t 28)
 (.seq
 (.reg [mc 4 (.bool false)])
 .ret)
 .skip))
 (.seq
 (.gp (.reg [mv 29 0,
 ii 30 (.ob (.callo 61 false)) [.t 29]]) (.lay 4 3))
 (.seq
 (.seq
 (.gh (.opn [mv 32 0, ii 33 .nilchk [.t 32], fa 34 2 33] (.t 34) 2 false) (.gh (.lay 4 3) (.gp (.gp (.gp (.pre [5] [] [1] (.regx [(mv 32 0, []),
 (ii 33 .nilchk [.t 32], [0]),
 (fa 34 2 33, [1]),
 (ii 35 (.at 4 (.load 1 false false)) [.t 34], [2]),
 (fa 36 1 3, []),
 (ii 37 (.at 0 (.load 1 false false)) [.t 36], [4]),
 (⟨some 38, none, .ob (.lookx (some .i64) (.agg [.int .i64 0, .int .i64 0, .int .i64 0, .int .i64 0, .int .i64 0]) true), [.t 35, .t 37]⟩, [3, 5]),
 (mt 31 38, [6]),
 (ii 39 (.extp 0) [.t 31], [7]),
 (ii 40 (.extp 1) [.t 31], [7]),
 (⟨some 5, none, .alloc 1 5 [.p (.int .i64 0), .p (.int .i64 0), .p (.int .i64 0), .p (.int .i64 0), .p (.int .i64 0)], []⟩, []),
 (⟨none, none, .at 1 (.store 5), [.t 5, .t 39]⟩, [0, 1, 2, 3, 4, 5, 6, 7, 8, 10]),
 (mt 6 40, [0, 1, 2, 3, 4, 5, 6, 7, 8, 9, 10, 11])])) (.shut (.t 0) 2)) (.forget [35])) (.lay 4 3))))
 (.seq
 (.reg [mt 41 6])
 (.cond (.t 41)
 (.seq
 (.reg [mc 4 (.bool false)])
 .ret)
 .skip)))
 (.seq
 (.gh (.opn [mv 42 0, ii 43 .nilchk [.t 42], fa 44 0 43] (.t 44) 3 false) (.gh (.lay 4 3) (.gp (.gp (.gp (.regd [mt 42 0,
 ii 43 .nilchk [.t 42],
 fa 44 0 43,
 ii 45 (.at 4 (.load 1 false false)) [.t 44],
 ii 46 (.at 0 (.load 5 true false)) [.t 3],
 ii 47 (.ob (.callo 62 false)) [.t 45, .t 46],
 mt 4 47]) (.shut (.t 0) 0)) (.forget [45])) (.lay 4 3))))
 .ret))))))⟩
theorem h33 : chkF Tryz.prog 33 T33 = true := by kernel_rfl
def T34 : Fn := ⟨41, 2, [.tmp 4],
 (.gh (.lay 2 3) (.seq
 (.reg [ii 4 (.mov true) [.c (.p (.sl 5 true []))]])
 (.seq
 (.seq
 (.reg [mv 8 0,
 ii 9 (.ob (.eqp false)) [.t 8, .c (.p (.atom (.pointer none)))]])
 (.cond (.t 9)
 (.seq
 (.reg [ii 4 (.mov true) [.c (.p (.sl 5 true []))]])
 .ret)
 .skip))
 (.seq
 (.gp (.reg [mv 10 0,
 ii 11 (.ob (.callo 61 false)) [.t 10]]) (.lay 2 3))
 (.seq
 (.reg [ii 5 (.mov true) [.c (.p (.sl 5 true []))]])
 (.seq
 (.seq
 (.gp (.gp (.gp (.gp (.reg [mv 12 0,
 ii 13 .nilchk [.t 12],
 fa 14 1 13,
 ii 15 (.ob (.ldo 0 false)) [.t 14],
 mt 16 1,
 ii 17 (.ob (.callo 63 false)) [.t 15, .t 16],
 ii 18 .len [.t 17],
 ii 19 (.mov false) [.c (.p (.int .i64 0))]]) (.shut (.t 0) 1)) (.forget [15])) (.trim 3)) (.lay 2 3))
 (.block 0
 (.loop [1, 4, 7, 8, 9, 10, 11, 12, 13, 14, 15, 16, 20, 21, 22, 23, 24, 25, 26, 27, 28, 29, 30, 31, 32, 33, 34, 35, 36, 37, 38, 39, 40] []
 (.seq
 (.reg [b2 20 .lss 19 18])
 (.seq
 (.cond (.t 20)
 .skip
 (.exit 0))
 (.seq
 (.block 1
 (.seq
 (.reg [ii 21 (.iad 1) [.t 17, .t 19],
 ld 22 21,
 mt 7 22])
 (.seq
 (.gp (.gp (.gp (.gp (.reg [mt 23 5,
 mv 24 0,
 ii 25 .nilchk [.t 24],
 fa 26 2 25,
 ii 27 (.ob (.ldo 1 false)) [.t 26],
 mv 28 7,
 ⟨some 29, none, .ob (.lookx (some .i64) (.agg [.int .i64 0, .int .i64 0, .int .i64 0, .int .i64 0, .int .i64 0]) false), [.t 27, .t 28]⟩,
 ii 30 (.bsl 5 1) [.t 29],
 ii 31 (.ob (.appd 5 40 true)) [.t 23, .t 30],
 mt 5 31]) (.shut (.t 0) 2)) (.forget [27, 35])) (.trim 3)) (.lay 2 3))
 (.gp (.gp (.gp (.gp (.reg [mv 32 0,
 ii 33 .nilchk [.t 32],
 fa 34 2 33,
 ii 35 (.ob (.ldo 1 false)) [.t 34],
 mt 36 7,
 ⟨none, none, .ob (.mdel (some .i64)), [.t 35, .t 36]⟩]) (.shut (.t 0) 2)) (.forget [27, 35])) (.trim 3)) (.lay 2 3)))))
 (.reg [b1 37 .add 19 (.int .i64 1),
 mt 19 37])))))))
 (.seq
 (.gp (.reg [mv 38 5,
 ii 39 (.ob (.callo 64 false)) [.t 38, .c (.p (.fn 65 []))]]) (.lay 2 3))
 (.seq
 (.reg [mt 40 5,
 mt 4 40])
 .ret))))))))⟩
theorem h34 : chkF Tryz.prog 34 T34 = true := by kernel_rfl
def T41 : Fn := ⟨24, 3, [.cell 4 5, .tmp 5],
 (.gh (.lay 3 3) (.seq
 (.reg [⟨some 4, none, .alloc 0 5 [.p (.int .i64 0), .p (.int .i64 0), .p (.int .i64 0), .p (.int .i64 0), .p (.int .i64 0)], []⟩,
 mc 5 (.bool false)])
 (.seq
 (.seq
 (.reg [mv 8 0,
 ii 9 (.ob (.eqp false)) [.t 8, .c (.p (.atom (.pointer none)))]])
 (.cond (.t 9)
 (.seq
 (.gp (.reg [⟨some 10, none, .build [.int .i64 0, .int .i64 0, .int .i64 0, .int .i64 0, .int .i64 0] [], []⟩,
 ⟨none, none, .store 5, [.t 4, .t 10]⟩,
 mc 5 (.bool false)]) (.lay 3 3))
 .ret)
 .skip))
 (.seq
 (.gp (.reg [mv 11 0,
 ii 12 (.ob (.callo 61 false)) [.t 11]]) (.lay 3 3))
 (.seq
 (.gp (.gp (.gp (.reg [mt 14 0,
 ii 15 .nilchk [.t 14],
 fa 16 2 15,
 ii 17 (.ob (.ldo 2 false)) [.t 16],
 mt 18 1,
 ⟨some 19, none, .ob (.lookx (some .i64) (.agg [.int .i64 0, .int .i64 0, .int .i64 0, .int .i64 0, .int .i64 0]) true), [.t 17, .t 18]⟩,
 mt 13 19,
 ii 20 (.ext 0) [.t 13],
 ii 21 (.ext 1) [.t 13],
 ⟨some 6, none, .alloc 1 5 [.p (.int .i64 0), .p (.int .i64 0), .p (.int .i64 0), .p (.int .i64 0), .p (.int .i64 0)], []⟩,
 ⟨none, none, .store 5, [.t 6, .t 20]⟩,
 mt 7 21]) (.shut (.t 0) 2)) (.forget [17])) (.lay 3 3))
 (.seq
 (.gp (.reg [ii 22 (.load 5 true false) [.t 6],
 mt 23 7,
 ⟨none, none, .store 5, [.t 4, .t 22]⟩,
 mt 5 23]) (.lay 3 3))
 .ret))))))⟩
theorem h41 : chkF Tryz.prog 41 T41 = true := by kernel_rfl
def T35 : Fn := ⟨12, 1, [.tmp 2],
 (.gh (.lay 1 3) (.seq
 (.reg [mc 2 (.int .i64 0)])
 (.seq
 (.seq
 (.reg [mv 3 0,
 ii 4 (.ob (.eqp false)) [.t 3, .c (.p (.atom (.pointer none)))]])
 (.cond (.t 4)
 (.seq
 (.reg [mc 2 (.int .i64 0)])
 .ret)
 .skip))
 (.seq
 (.gp (.reg [mv 5 0,
 ii 6 (.ob (.callo 61 false)) [.t 5]]) (.lay 1 3))
 (.seq
 (.gp (.gp (.gp (.reg [mt 7 0,
 ii 8 .nilchk [.t 7],
 fa 9 2 8,
 ii 10 (.ob (.ldo 0 false)) [.t 9],
 ii 11 (.ob .mlen) [.t 10],
 mt 2 11]) (.shut (.t 0) 2)) (.forget [10])) (.lay 1 3))
 .ret)))))⟩
theorem h35 : chkF Tryz.prog 35 T35 = true := by kernel_rfl
end Go.Proofs.YtnjphclbpgajpaaGreatDoor.Vc
