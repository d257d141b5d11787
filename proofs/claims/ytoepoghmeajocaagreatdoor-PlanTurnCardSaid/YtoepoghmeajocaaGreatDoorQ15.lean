/- Part of a proof over a Go program: Cm, Ct, Cn, Cw, Cx, Cy, Cz, Cu, La. No condition. -/
import Derived.Test.YtoepoghmeajocaaGreatDoorQ14
import Derived.Test.YtoepoghmeajocaaGreatDoorQ13
set_option linter.unnecessarySimpa false
set_option linter.unusedSectionVars false
set_option linter.unusedSimpArgs false
set_option linter.unusedVariables false
set_option maxHeartbeats 4000000
set_option maxRecDepth 100000
namespace Go.Proofs.YtoepoghmeajocaaGreatDoor.Vc
open Go.RowKit Ma
def rSeen (p : Pc) : List DV := [.p (.int .i64 p.core), .p (.bool true)]
theorem find_seen (L : List Pc) (x : Int) : findM .i64 x (L.map rSeen) = if L.any (fun p => decide (p.core = x)) = true then some (some (.bool true)) else some none := by
 induction L with
 | nil => rfl
 | cons p L ih =>
  simp only [List.map_cons, rSeen, findM, List.any_cons]
  rw [if_pos trivial]
  by_cases h : p.core = x
  ·simp [h]
  ·rw [if_neg h]; simp only [h, decide_false, Bool.false_or]; exact ih
theorem upd_seen (L : List Pc) (x : Pc) (h : L.any (fun p => decide (p.core = x.core)) = false) : updM .i64 x.core (.bool true) (L.map rSeen) = some ((L ++ [x]).map rSeen) := by
 induction L with
 | nil => rfl
 | cons p L ih =>
  simp only [List.any_cons, Bool.or_eq_false_iff, decide_eq_false_iff_not] at h
  simp only [List.map_cons, rSeen, updM, List.cons_append]
  rw [if_pos trivial, if_neg h.1]
  rw [ih h.2]
theorem seen_plain (k : Nat) (L : List Pc) : noRefR k (L.map rSeen) = true := by
 induction L with
 | nil => rfl
 | cons p L ih => simp only [List.map_cons, noRefR, ih]; rfl
theorem test_ok {i : Ins} {s : St} {A : Prop} (h : fresh i s) (k : A) : testB (freshB i s) A := by rw [testB_eq, freshB_eq]; exact ⟨h, k⟩
theorem apart_take {ps : List Pc} {i : Nat} (hi : i < ps.length) : (ps.take (i + 1)).Pairwise (fun a b => a.core ≠ b.core) ↔ (ps.take i).Pairwise (fun a b => a.core ≠ b.core) ∧ (ps.take i).any (fun p => decide (p.core = ps[i].core)) = false := by
 rw [List.take_succ_eq_append_getElem hi, List.pairwise_append]
 simp
theorem pw_take {ps : List Pc} (h : ps.Pairwise fun a b => a.core ≠ b.core) (n : Nat) : (ps.take n).Pairwise fun a b => a.core ≠ b.core := h.sublist (List.take_sublist _ _)
theorem apart52 (c : Cf) (k : Int) (nl : Bool) (ps : List Pc) (hl1 : ps.length ≤ 1000) : PureCall Tryz.prog 56 [eCf c, ePl k nl ps] (.p (.bool (apartB c.cores ps))) := by
 have hm := maxLen_eq
 have hpc := fun p => piece71 c p
 refine Fn.run k56 rfl ?_
 generalize Tryz.prog = P at *
 (repeat' ((conv => whnf); first | exact trivial | with_reducible refine zX ?_ | refine ⟨rfl, ?_⟩ | refine ⟨_, rfl, ?_⟩ | with_reducible refine zP ?_ | with_reducible refine zL ?_ | refine ⟨fun _ => ?_, fun _ => ?_⟩ | refine zn ?_ | refine zb rfl ?_ | refine zX ?_ | refine zo rfl ?_ | refine zs ?_ | intro _)); all_goals (try (conv => whnf))
 rename_i hlen
 refine loop_inv (fun n s => ∃ (i : Nat) (rows : List (List DV)), n + i = ps.length ∧ (∀ p, p ∈ ps.take i → p.ok c.cores = true) ∧ (ps.take i).Pairwise (fun a b => a.core ≠ b.core) ∧ rows = (ps.take i).map rSeen ∧
  s = ⟨mkT 30 [(2, .addr 0 5 0 0), (5, .mh 2), (10, .p (.sl 4 nl (ps.map eP))), (11, .p (.int .i64 (ps.map eP).length)), (12, .p (.int .i64 i))], [some (bCf c true), some (bPl k nl ps), some ⟨true, 0, rows, false⟩, none]⟩) ps.length ?_ ?_
 ·conv => whnf
  exact ⟨0, [], rfl, by simp, by simp, rfl, rfl⟩
 ·rintro n st b N ⟨i, rows, hi, h1, h2, hrows, e⟩ hN
  cases e
  by_cases hlt : i < ps.length
  ·have hr1 : (ps.map eP)[i]? = some (.agg [.int .i64 ps[i].core, .int .i64 ps[i].off, .int .i64 ps[i].len, .int .i64 ps[i].c]) := by simp [hlt, eP]
   have hb := lt_t (n := (ps.map eP).length) (by simpa using hlt)
   have hp := hpc ps[i]
   have hap := @apart_take ps i hlt
   have hfi := find_seen (ps.take i) ps[i].core
   have hup := upd_seen (ps.take i) ps[i]
   have htk := List.take_succ_eq_append_getElem hlt
   have hmem : ps[i] ∈ ps := List.getElem_mem hlt
   generalize ps[i] = x at *
   rw [← hrows] at hfi hup
   have hnr : noRefR 3 rows = true := by rw [hrows]; exact seen_plain 3 _
   (repeat' ((conv => whnf); first | exact trivial | with_reducible refine zX ?_ | refine ⟨rfl, ?_⟩ | refine ⟨_, rfl, ?_⟩ | with_reducible refine zP ?_ | with_reducible refine zL ?_ | refine ⟨fun _ => ?_, fun _ => ?_⟩ | refine zn ?_ | refine zb rfl ?_ | refine zX ?_ | refine zo rfl ?_ | refine zs ?_ | intro _)); all_goals (try (conv => whnf))
   refine test_ok ⟨by show 3 < 4; decide, rfl, by simp only [noRefB, hnr]; rfl⟩ ?_
   cases hok : x.ok c.cores with
   | false =>
    rw [hok] at hp
    have hf : apartB c.cores ps = false := Bool.eq_false_iff.2 fun e => by
     rw [apartB_iff] at e; have := e.1 x hmem; rw [hok] at this; cases this
    rw [hf]
    simp only [eCf, eP] at hp
    (repeat' ((conv => whnf); first | exact trivial | with_reducible refine zX ?_ | refine ⟨rfl, ?_⟩ | refine ⟨_, rfl, ?_⟩ | with_reducible refine zP ?_ | with_reducible refine zL ?_ | refine ⟨fun _ => ?_, fun _ => ?_⟩ | refine zn ?_ | refine zb rfl ?_ | refine zX ?_ | refine zo rfl ?_ | refine zs ?_ | intro _)); all_goals (try (conv => whnf))
    all_goals exact bool_end rfl
   | true =>
    rw [hok] at hp
    simp only [eCf, eP] at hp
    cases hany : (ps.take i).any fun p => decide (p.core = x.core) with
    | true =>
     rw [hany] at hfi hap
     rw [if_pos rfl] at hfi
     have hf : apartB c.cores ps = false := Bool.eq_false_iff.2 fun e => by
      rw [apartB_iff] at e
      have := (hap.1 (pw_take e.2 _)).2
      cases this
     rw [hf]
     (repeat' ((conv => whnf); first | exact trivial | with_reducible refine zX ?_ | refine ⟨rfl, ?_⟩ | refine ⟨_, rfl, ?_⟩ | with_reducible refine zP ?_ | with_reducible refine zL ?_ | refine ⟨fun _ => ?_, fun _ => ?_⟩ | refine zn ?_ | refine zb rfl ?_ | refine zX ?_ | refine zo rfl ?_ | refine zs ?_ | intro _)); all_goals (try (conv => whnf))
     rw [hfi]
     (repeat' ((conv => whnf); first | exact trivial | with_reducible refine zX ?_ | refine ⟨rfl, ?_⟩ | refine ⟨_, rfl, ?_⟩ | with_reducible refine zP ?_ | with_reducible refine zL ?_ | refine ⟨fun _ => ?_, fun _ => ?_⟩ | refine zn ?_ | refine zb rfl ?_ | refine zX ?_ | refine zo rfl ?_ | refine zs ?_ | intro _)); all_goals (try (conv => whnf))
     all_goals exact bool_end rfl
    | false =>
     rw [hany] at hfi hap
     rw [if_neg (by decide)] at hfi
     have hu := hup hany
     (repeat' ((conv => whnf); first | exact trivial | with_reducible refine zX ?_ | refine ⟨rfl, ?_⟩ | refine ⟨_, rfl, ?_⟩ | with_reducible refine zP ?_ | with_reducible refine zL ?_ | refine ⟨fun _ => ?_, fun _ => ?_⟩ | refine zn ?_ | refine zb rfl ?_ | refine zX ?_ | refine zo rfl ?_ | refine zs ?_ | intro _)); all_goals (try (conv => whnf))
     rw [hfi]
     (repeat' ((conv => whnf); first | exact trivial | with_reducible refine zX ?_ | refine ⟨rfl, ?_⟩ | refine ⟨_, rfl, ?_⟩ | with_reducible refine zP ?_ | with_reducible refine zL ?_ | refine ⟨fun _ => ?_, fun _ => ?_⟩ | refine zn ?_ | refine zb rfl ?_ | refine zX ?_ | refine zo rfl ?_ | refine zs ?_ | intro _)); all_goals (try (conv => whnf))
     rw [hu]
     (repeat' ((conv => whnf); first | exact trivial | with_reducible refine zX ?_ | refine ⟨rfl, ?_⟩ | refine ⟨_, rfl, ?_⟩ | with_reducible refine zP ?_ | with_reducible refine zL ?_ | refine ⟨fun _ => ?_, fun _ => ?_⟩ | refine zn ?_ | refine zb rfl ?_ | refine zX ?_ | refine zo rfl ?_ | refine zs ?_ | intro _)); all_goals (try (conv => whnf))
     rw [next1 (n := (ps.map eP).length) (by simpa using hlt) hlen]
     refine hN (n - 1) _ (by omega) ⟨i + 1, _, by omega, fun p hp => ?_, hap.2 ⟨h2, rfl⟩, by rw [htk], rfl⟩
     rw [htk] at hp
     rcases List.mem_append.1 hp with hp | hp
     ·exact h1 p hp
     ·simp only [List.mem_singleton] at hp; subst hp; exact hok
  ·have hb := lt_f (i := i) (n := (ps.map eP).length) (by simpa using hlt)
   rw [List.take_of_length_le (by omega)] at h1 h2
   have hf : apartB c.cores ps = true := apartB_iff.2 ⟨h1, h2⟩
   rw [hf]
   (repeat' ((conv => whnf); first | exact trivial | with_reducible refine zX ?_ | refine ⟨rfl, ?_⟩ | refine ⟨_, rfl, ?_⟩ | with_reducible refine zP ?_ | with_reducible refine zL ?_ | refine ⟨fun _ => ?_, fun _ => ?_⟩ | refine zn ?_ | refine zb rfl ?_ | refine zX ?_ | refine zo rfl ?_ | refine zs ?_ | intro _)); all_goals (try (conv => whnf))
   exact bool_end rfl
theorem sumW_eq : ∀ (ps : List Pc) (a : Int), 0 ≤ a → (∀ p, p ∈ ps → 0 ≤ p.c ∧ p.c ≤ 200) → a + 200 * ps.length ≤ 1000000 → sumW a ps = a + sumC ps := by
 intro ps
 induction ps with
 | nil => intro a _ _ _; simp [sumW, sumC]
 | cons p ps ih =>
  intro a h0 h1 h2
  have hp := h1 p (by simp)
  simp only [List.length_cons] at h2
  simp only [sumW, sumC]
  rw [wrapE (by omega) (by omega), ih (a + p.c) (by omega) (fun q hq => h1 q (by simp [hq])) (by omega)]
  omega
theorem sumW_ok {cores : Int} {ps : List Pc} (hok : ∀ p, p ∈ ps → p.ok cores = true) (hl : ps.length ≤ 1000) : sumW 0 ps = sumC ps := by
 rw [sumW_eq ps 0 (Int.le_refl _) (fun p hp => by have := Pc.ok_iff.1 (hok p hp); omega) (by omega)]; omega
theorem chain_take {lag move : Int} {ps : List Pc} (h : chain lag move ps) (n : Nat) : chain lag move (ps.take n) := by
 suffices ∀ (k n : Nat), ps.length = n + k → chain lag move (ps.take n) by
  by_cases hn : n ≤ ps.length
  ·exact this (ps.length - n) n (by omega)
  ·rw [List.take_of_length_le (by omega)]; exact h
 intro k
 induction k with
 | zero => intro n hn; rw [List.take_of_length_le (by omega)]; exact h
 | succ k ih =>
  intro n hn
  have h1 := ih (n + 1) (by omega)
  rw [List.take_succ_eq_append_getElem (by omega), chain_snoc] at h1
  exact h1.1
theorem chain_next {lag move : Int} {ps : List Pc} {i : Nat} (hi : i + 1 < ps.length) (h : chain lag move (ps.take (i + 1))) : chain lag move (ps.take (i + 2)) ↔ ps[i].off + ps[i].len + lag ≤ ps[i + 1].off ∧ move < ps[i + 1].c := by
 rw [List.take_succ_eq_append_getElem hi, chain_snoc]
 have hg : (ps.take (i + 1)).getLast? = some ps[i] := by rw [List.take_succ_eq_append_getElem (show i < ps.length by omega), List.getLast?_append]; rfl
 rw [hg]
 constructor
 ·rintro ⟨_, h2⟩; exact h2 _ rfl
 ·intro h2; exact ⟨h, fun p hp => by injection hp with hp; subst hp; exact h2⟩
theorem split53 (c : Cf) (hc : headR c) (t : Tk) (hC : 1 ≤ t.C ∧ t.C ≤ 200) (k : Int) (nl : Bool) (ps : List Pc) (hok : ∀ p, p ∈ ps → p.ok c.cores = true) (hl1 : ps.length ≤ 1000) :
  PureCall Tryz.prog 57 [eCf c, eT t, ePl k nl ps] (.p (.bool (splitB c.lag c.move t.C t.D t.secs.length ps))) := by
 have hm := maxLen_eq
 obtain ⟨⟨c1, c2⟩, ⟨c3, c4⟩, ⟨c5, c6⟩, c7, c8⟩ := hc
 have hbud := budget35 k nl ps
 rw [sumW_ok hok hl1] at hbud
 have hsum : 0 ≤ sumC ps ∧ sumC ps ≤ 200 * ps.length := sum_bound hok
 by_cases hs : t.secs.length = 0
 case neg =>
  have b1 : decide (((t.secs.map eS).length : Int) > 0) = true := decide_eq_true (by simp; omega)
  have hf : splitB c.lag c.move t.C t.D t.secs.length ps = false := Bool.eq_false_iff.2 fun e => hs (splitB_iff.1 e).sec
  rw [hf]
  refine Fn.run k57 rfl ?_
  generalize Tryz.prog = P at *
  (repeat' ((conv => whnf); first | exact trivial | with_reducible refine zX ?_ | refine ⟨rfl, ?_⟩ | refine ⟨_, rfl, ?_⟩ | with_reducible refine zP ?_ | with_reducible refine zL ?_ | refine ⟨fun _ => ?_, fun _ => ?_⟩ | refine zn ?_ | refine zb rfl ?_ | refine zX ?_ | refine zo rfl ?_ | refine zs ?_ | intro _)); all_goals (try (conv => whnf))
  all_goals exact bool_end rfl
 have b1 : decide (((t.secs.map eS).length : Int) > 0) = false := decide_eq_false (by rw [List.length_map, hs]; omega)
 by_cases h2 : 2 ≤ ps.length
 case neg =>
  have b2 : decide (((ps.map eP).length : Int) < 2) = true := decide_eq_true (by simp; omega)
  have hf : splitB c.lag c.move t.C t.D t.secs.length ps = false := Bool.eq_false_iff.2 fun e => h2 (splitB_iff.1 e).two
  rw [hf]
  refine Fn.run k57 rfl ?_
  generalize Tryz.prog = P at *
  (repeat' ((conv => whnf); first | exact trivial | with_reducible refine zX ?_ | refine ⟨rfl, ?_⟩ | refine ⟨_, rfl, ?_⟩ | with_reducible refine zP ?_ | with_reducible refine zL ?_ | refine ⟨fun _ => ?_, fun _ => ?_⟩ | refine zn ?_ | refine zb rfl ?_ | refine zX ?_ | refine zo rfl ?_ | refine zs ?_ | intro _)); all_goals (try (conv => whnf))
  all_goals exact bool_end rfl
 have b2 : decide (((ps.map eP).length : Int) < 2) = false := decide_eq_false (by simp; omega)
 have hrow : ∀ (j : Nat) (hj : j < ps.length), (ps.map eP)[j]? = some (.agg [.int .i64 ps[j].core, .int .i64 ps[j].off, .int .i64 ps[j].len, .int .i64 ps[j].c]) := fun j hj => by simp [hj, eP]
 have hr0 := hrow 0 (by omega)
 have hfo : firstOff ps = ps[0].off := by cases ps with
  | nil => simp at h2
  | cons p ps => rfl
 by_cases h3 : ps[0].off = 0
 case neg =>
  have b3 : (ps[0].off != 0) = true := by simpa using h3
  have hf : splitB c.lag c.move t.C t.D t.secs.length ps = false := Bool.eq_false_iff.2 fun e => h3 (by rw [← hfo]; exact (splitB_iff.1 e).first)
  rw [hf]
  generalize ps[0] = x0 at *
  refine Fn.run k57 rfl ?_
  generalize Tryz.prog = P at *
  (repeat' ((conv => whnf); first | exact trivial | with_reducible refine zX ?_ | refine ⟨rfl, ?_⟩ | refine ⟨_, rfl, ?_⟩ | with_reducible refine zP ?_ | with_reducible refine zL ?_ | refine ⟨fun _ => ?_, fun _ => ?_⟩ | refine zn ?_ | refine zb rfl ?_ | refine zX ?_ | refine zo rfl ?_ | refine zs ?_ | intro _)); all_goals (try (conv => whnf))
  all_goals exact bool_end rfl
 have b3 : (ps[0].off != 0) = false := by simpa using h3
 generalize hx0 : ps[0] = x0 at *
 refine Fn.run k57 rfl ?_
 generalize Tryz.prog = P at *
 (repeat' ((conv => whnf); first | exact trivial | with_reducible refine zX ?_ | refine ⟨rfl, ?_⟩ | refine ⟨_, rfl, ?_⟩ | with_reducible refine zP ?_ | with_reducible refine zL ?_ | refine ⟨fun _ => ?_, fun _ => ?_⟩ | refine zn ?_ | refine zb rfl ?_ | refine zX ?_ | refine zo rfl ?_ | refine zs ?_ | intro _)); all_goals (try (conv => whnf))
 refine loop_inv (fun n s => ∃ i : Nat, n + i = ps.length ∧ 1 ≤ i ∧ chain c.lag c.move (ps.take i) ∧
  s = ⟨mkT 92 [(3, .addr 0 5 0 0), (4, .addr 1 4 0 0), (5, .addr 2 2 0 0), (7, .p (.int .i64 (ps.map eP).length)), (8, .p (.int .i64 i))], [some (bCf c true), some (bTk t), some (bPl k nl ps), none, none, none]⟩) (ps.length - 1) ?_ ?_
 ·conv => whnf
  exact ⟨1, by omega, Nat.le_refl _, by rw [List.take_succ_eq_append_getElem (show 0 < ps.length by omega)]; trivial, rfl⟩
 ·rintro n st b N ⟨i, hi, hi1, hch, e⟩ hN
  cases e
  by_cases hlt : i < ps.length
  ·obtain ⟨j, rfl⟩ : ∃ j, i = j + 1 := ⟨i - 1, by omega⟩
   have hb := lt_t (n := (ps.map eP).length) (by simpa using hlt)
   have e1 : IntKind.wrap .i64 (((j + 1 : Nat) : Int) - 1) = (j : Int) := by rw [wrapE (by omega) (by omega)]; omega
   have r1 := hrow j (by omega)
   have r2 := hrow (j + 1) hlt
   have g1 : (ps.map eP)[(IntKind.wrap .i64 (((j + 1 : Nat) : Int) - 1)).toNat]? = some (.agg [.int .i64 ps[j].core, .int .i64 ps[j].off, .int .i64 ps[j].len, .int .i64 ps[j].c]) := by rw [e1]; exact r1
   have g0 : (0 : Int) ≤ IntKind.wrap .i64 (((j + 1 : Nat) : Int) - 1) := by rw [e1]; omega
   have hnx := chain_next (lag := c.lag) (move := c.move) hlt hch
   have o1 := Pc.ok_iff.1 (hok _ (List.getElem_mem (show j < ps.length by omega)))
   have o2 := Pc.ok_iff.1 (hok _ (List.getElem_mem hlt))
   have hno : ¬ (ps[j].off + ps[j].len + c.lag ≤ ps[j + 1].off ∧ c.move < ps[j + 1].c) → splitB c.lag c.move t.C t.D t.secs.length ps = false := fun hn => Bool.eq_false_iff.2 fun e => hn (hnx.1 (chain_take (splitB_iff.1 e).next _))
   have w1 : IntKind.wrap .i64 (IntKind.wrap .i64 (ps[j].off + ps[j].len) + c.lag) = ps[j].off + ps[j].len + c.lag := by rw [wrapE (n := ps[j].off + ps[j].len) (by omega) (by omega), wrapE (by omega) (by omega)]
   generalize ps[j] = x at *
   generalize ps[j + 1] = y at *
   have hstep : ∀ {s : St}, x.off + x.len + c.lag ≤ y.off ∧ c.move < y.c → s = ⟨mkT 92 [(3, .addr 0 5 0 0), (4, .addr 1 4 0 0), (5, .addr 2 2 0 0), (7, .p (.int .i64 (ps.map eP).length)), (8, .p (.int .i64 (IntKind.wrap .i64 (((j + 1 : Nat) : Int) + 1))))], [some (bCf c true), some (bTk t), some (bPl k nl ps), none, none, none]⟩ → N s := fun hk e => by
    rw [next1 (n := ps.length) hlt (by omega)] at e
    exact hN (n - 1) _ (by omega) ⟨j + 2, by omega, by omega, hnx.2 hk, e⟩
   clear hN hrow hnx
   by_cases k1 : y.off < x.off + x.len + c.lag
   ·have d1 : decide (y.off < IntKind.wrap .i64 (IntKind.wrap .i64 (x.off + x.len) + c.lag)) = true := decide_eq_true (by rw [w1]; exact k1)
    rw [hno (by omega)]
    (repeat' ((conv => whnf); first | exact trivial | with_reducible refine zX ?_ | refine ⟨rfl, ?_⟩ | refine ⟨_, rfl, ?_⟩ | with_reducible refine zP ?_ | with_reducible refine zL ?_ | refine ⟨fun _ => ?_, fun _ => ?_⟩ | refine zn ?_ | refine zb rfl ?_ | refine zX ?_ | refine zo rfl ?_ | refine zs ?_ | intro _)); all_goals (try (conv => whnf))
    all_goals exact bool_end rfl
   ·have d1 : decide (y.off < IntKind.wrap .i64 (IntKind.wrap .i64 (x.off + x.len) + c.lag)) = false := decide_eq_false (by rw [w1]; exact k1)
    by_cases k2 : y.c ≤ c.move
    ·have d2 : decide (y.c ≤ c.move) = true := decide_eq_true k2
     rw [hno (by omega)]
     (repeat' ((conv => whnf); first | exact trivial | with_reducible refine zX ?_ | refine ⟨rfl, ?_⟩ | refine ⟨_, rfl, ?_⟩ | with_reducible refine zP ?_ | with_reducible refine zL ?_ | refine ⟨fun _ => ?_, fun _ => ?_⟩ | refine zn ?_ | refine zb rfl ?_ | refine zX ?_ | refine zo rfl ?_ | refine zs ?_ | intro _)); all_goals (try (conv => whnf))
     all_goals exact bool_end rfl
    ·have d2 : decide (y.c ≤ c.move) = false := decide_eq_false k2
     (repeat' ((conv => whnf); first | exact trivial | with_reducible refine zX ?_ | refine ⟨rfl, ?_⟩ | refine ⟨_, rfl, ?_⟩ | with_reducible refine zP ?_ | with_reducible refine zL ?_ | refine ⟨fun _ => ?_, fun _ => ?_⟩ | refine zn ?_ | refine zb rfl ?_ | refine zX ?_ | refine zo rfl ?_ | refine zs ?_ | intro _)); all_goals (try (conv => whnf))
     exact hstep (by omega) rfl
  ·have hb := lt_f (i := i) (n := (ps.map eP).length) (by simpa using hlt)
   have hch' : chain c.lag c.move ps := by rw [List.take_of_length_le (by omega)] at hch; exact hch
   have hil : ps.length - 1 < ps.length := by omega
   have hle := lastEnd_getElem (ps := ps) (fun e => by subst e; simp at h2) hil
   have r1 := hrow (ps.length - 1) hil
   have o1 := Pc.ok_iff.1 (hok _ (List.getElem_mem hil))
   have e1 : IntKind.wrap .i64 (((ps.map eP).length : Int) - 1) = ((ps.length - 1 : Nat) : Int) := by rw [List.length_map, wrapE (by omega) (by omega)]; omega
   have g0 : (0 : Int) ≤ IntKind.wrap .i64 (((ps.map eP).length : Int) - 1) := by rw [e1]; omega
   have g1 : (ps.map eP)[(IntKind.wrap .i64 (((ps.map eP).length : Int) - 1)).toNat]? = some (.agg [.int .i64 ps[ps.length - 1].core, .int .i64 ps[ps.length - 1].off, .int .i64 ps[ps.length - 1].len, .int .i64 ps[ps.length - 1].c]) := by rw [e1]; exact r1
   generalize ps[ps.length - 1] = z at *
   have w1 : IntKind.wrap .i64 (z.off + z.len) = lastEnd ps := by rw [wrapE (by omega) (by omega), hle]
   have hmv : 0 ≤ ((ps.length : Int) - 1) * c.move ∧ ((ps.length : Int) - 1) * c.move ≤ 5000 := by
    refine ⟨Int.mul_nonneg (by omega) c7, ?_⟩
    calc ((ps.length : Int) - 1) * c.move ≤ 1000 * 5 := Int.mul_le_mul (by omega) (by omega) (by omega) (by omega)
     _ = 5000 := by omega
   have w2 : IntKind.wrap .i64 (t.C + IntKind.wrap .i64 (IntKind.wrap .i64 (((ps.map eP).length : Int) - 1) * c.move)) = t.C + ((ps.length : Int) - 1) * c.move := by
    rw [e1, show ((ps.length - 1 : Nat) : Int) = (ps.length : Int) - 1 by omega, wrapE (n := ((ps.length : Int) - 1) * c.move) (by omega) (by omega), wrapE (by omega) (by omega)]
   have hsp : splitB c.lag c.move t.C t.D t.secs.length ps = (decide (lastEnd ps ≤ t.D) && (sumC ps == t.C + ((ps.length : Int) - 1) * c.move)) := by
    rw [Bool.eq_iff_iff, splitB_iff]
    simp only [Bool.and_eq_true, decide_eq_true_eq, beq_iff_eq]
    exact ⟨fun h => ⟨h.last, h.sum⟩, fun h => ⟨hs, h2, by rw [hfo]; exact h3, hch', h.1, h.2⟩⟩
   rw [hsp]
   clear hN hrow hsp
   by_cases k1 : lastEnd ps ≤ t.D
   ·have d1 : decide (IntKind.wrap .i64 (z.off + z.len) ≤ t.D) = true := decide_eq_true (by rw [w1]; exact k1)
    rw [decide_eq_true k1, Bool.true_and]
    (repeat' ((conv => whnf); first | exact trivial | with_reducible refine zX ?_ | refine ⟨rfl, ?_⟩ | refine ⟨_, rfl, ?_⟩ | with_reducible refine zP ?_ | with_reducible refine zL ?_ | refine ⟨fun _ => ?_, fun _ => ?_⟩ | refine zn ?_ | refine zb rfl ?_ | refine zX ?_ | refine zo rfl ?_ | refine zs ?_ | intro _)); all_goals (try (conv => whnf))
    all_goals (refine bool_end ?_; rw [w2])
   ·have d1 : decide (IntKind.wrap .i64 (z.off + z.len) ≤ t.D) = false := decide_eq_false (by rw [w1]; exact k1)
    rw [decide_eq_false k1, Bool.false_and]
    (repeat' ((conv => whnf); first | exact trivial | with_reducible refine zX ?_ | refine ⟨rfl, ?_⟩ | refine ⟨_, rfl, ?_⟩ | with_reducible refine zP ?_ | with_reducible refine zL ?_ | refine ⟨fun _ => ?_, fun _ => ?_⟩ | refine zn ?_ | refine zb rfl ?_ | refine zX ?_ | refine zo rfl ?_ | refine zs ?_ | intro _)); all_goals (try (conv => whnf))
    all_goals exact bool_end rfl
end Go.Proofs.YtoepoghmeajocaaGreatDoor.Vc
namespace Go.Proofs.YtoepoghmeajocaaGreatDoor.Vc
open Go.RowKit Ma
theorem task44 (c : Cf) (t : Tk) (hl : t.secs.length ≤ 1000) (hlc : c.res.length ≤ 1000) : PureCall Tryz.prog 50 [eCf c, eT t] (.p (.bool (t.ok c.res.length))) := by
 have hm := maxLen_eq
 have hwi := fun n => in65 n 1 200
 have hwj := fun n m => in65 n 1 m
 unfold Tk.ok
 by_cases hh : headT t
 ·rw [decide_eq_true hh, Bool.true_and]
  obtain ⟨a1, a2, a3, a4, a5⟩ := hh
  have b1 : decide (t.C < 1) = false := decide_eq_false (by omega)
  have b2 : decide (t.D < t.C) = false := decide_eq_false (by omega)
  have b3 : decide (t.T < t.D) = false := decide_eq_false (by omega)
  have b4 : decide (t.T > 200) = false := decide_eq_false (by omega)
  have b5 : decide (((t.secs.map eS).length : Int) > 2) = false := decide_eq_false (by simp; omega)
  have hC1 : IntKind.wrap .i64 (t.C - 1) = t.C - 1 := wrapE (by omega) (by omega)
  refine Fn.run k50 rfl ?_
  generalize Tryz.prog = P at *
  (repeat' ((conv => whnf); first | exact trivial | with_reducible refine zX ?_ | refine ⟨rfl, ?_⟩ | refine ⟨_, rfl, ?_⟩ | with_reducible refine zP ?_ | with_reducible refine zL ?_ | refine ⟨fun _ => ?_, fun _ => ?_⟩ | refine zn ?_ | refine zb rfl ?_ | refine zX ?_ | refine zo rfl ?_ | refine zs ?_ | intro _)); all_goals (try (conv => whnf))
  refine loop_inv (fun n s => ∃ (i : Nat) (last : Int), n + i = t.secs.length ∧ 0 ≤ last ∧ (i = 0 → last = 0) ∧ (∀ j, i = j + 1 → ∃ q, t.secs[j]? = some q ∧ q.at_ = last) ∧ secsB c.res.length t.C last (t.secs.drop i) = secsB c.res.length t.C 0 t.secs ∧
   s = ⟨mkT 89 [(2, .addr 0 5 0 0), (3, .addr 1 4 0 0), (5, .p (.int .i64 i))], [some (bCf c true), some (bTk t), none]⟩) t.secs.length ?_ ?_
  ·conv => whnf
   exact ⟨0, 0, rfl, Int.le_refl _, fun _ => rfl, (fun j h => by cases h), rfl, rfl⟩
  ·rintro n st b N ⟨i, last, hi, hlast, hz, hp, hI, e⟩ hN
   cases e
   by_cases hlt : i < t.secs.length
   ·have hrow : (t.secs.map eS)[i]? = some (.agg [.int .i64 t.secs[i].res, .int .i64 t.secs[i].at_, .int .i64 t.secs[i].len]) := by simp [hlt, eS]
    have hb := lt_t (n := (t.secs.map eS).length) (by simpa using hlt)
    have hsome : t.secs[i]? = some t.secs[i] := by simp [hlt]
    rw [List.drop_eq_getElem_cons hlt] at hI
    simp only [secsB] at hI
    have hw := hwi t.secs[i].len
    have hv := hwj t.secs[i].at_ (IntKind.wrap .i64 (t.C - 1))
    generalize hsi : t.secs[i] = x at *
    have step : ∀ y : Bool, (((decide (0 ≤ x.res) && (decide (x.res < (c.res.length : Int)) && (decide (1 ≤ x.len) && (decide (x.len ≤ 200) && (decide (last < x.at_) && decide (x.at_ < t.C)))))) = true → y = secsB c.res.length t.C x.at_ (t.secs.drop (i + 1))) →
      ((decide (0 ≤ x.res) && (decide (x.res < (c.res.length : Int)) && (decide (1 ≤ x.len) && (decide (x.len ≤ 200) && (decide (last < x.at_) && decide (x.at_ < t.C)))))) = false → y = false) → y = secsB c.res.length t.C 0 t.secs) := by
     intro y h1 h2
     rw [← hI]
     cases hd : (decide (0 ≤ x.res) && (decide (x.res < (c.res.length : Int)) && (decide (1 ≤ x.len) && (decide (x.len ≤ 200) && (decide (last < x.at_) && decide (x.at_ < t.C)))))) with
     | true =>
      rw [h1 hd]
      simp only [Bool.and_eq_true] at hd
      simp [hd]
     | false =>
      rw [h2 hd]
      simp only [Bool.and_eq_false_iff] at hd
      rcases hd with h | h | h | h | h | h <;> simp [h]
    by_cases c1 : 0 ≤ x.res ∧ x.res < (c.res.length : Int) ∧ 1 ≤ x.len ∧ x.len ≤ 200 ∧ last < x.at_ ∧ x.at_ < t.C
    ·obtain ⟨c1, c2, c3, c4, c5, c6⟩ := c1
     have d1 : decide (x.res < 0) = false := decide_eq_false (by omega)
     have d2 : decide (x.res ≥ ((c.res.map eI).length : Int)) = false := decide_eq_false (by simp; omega)
     have d3 : (decide (1 ≤ x.len) && decide (x.len ≤ 200)) = true := by simp [c3, c4]
     have d4 : (decide (1 ≤ x.at_) && decide (x.at_ ≤ IntKind.wrap .i64 (t.C - 1))) = true := by rw [hC1]; simp; omega
     rw [d3] at hw
     rw [d4] at hv
     rw [decide_eq_true c1, decide_eq_true c2, decide_eq_true c3, decide_eq_true c4, decide_eq_true c5, decide_eq_true c6] at hI
     simp only [Bool.true_and] at hI
     cases i with
     | zero =>
      have d5 : decide (((0 : Nat) : Int) > 0) = false := by decide
      (repeat' ((conv => whnf); first | exact trivial | with_reducible refine zX ?_ | refine ⟨rfl, ?_⟩ | refine ⟨_, rfl, ?_⟩ | with_reducible refine zP ?_ | with_reducible refine zL ?_ | refine ⟨fun _ => ?_, fun _ => ?_⟩ | refine zn ?_ | refine zb rfl ?_ | refine zX ?_ | refine zo rfl ?_ | refine zs ?_ | intro _)); all_goals (try (conv => whnf))
      refine hN (n - 1) _ (by omega) ⟨1, x.at_, by omega, by omega, (fun h => by cases h), (fun j hj => ?_), hI, rfl⟩
      have : j = 0 := by omega
      subst this
      exact ⟨x, hsome, rfl⟩
     | succ j =>
      obtain ⟨q, hq, hql⟩ := hp j rfl
      have hw1 : IntKind.wrap .i64 (((j + 1 : Nat) : Int) - 1) = (j : Int) := by rw [wrapE (by omega) (by omega)]; omega
      have d5 : decide (((j + 1 : Nat) : Int) > 0) = true := decide_eq_true (by omega)
      have d6 : 0 ≤ IntKind.wrap .i64 (((j + 1 : Nat) : Int) - 1) := by rw [hw1]; omega
      have hrow2 : (t.secs.map eS)[(IntKind.wrap .i64 (((j + 1 : Nat) : Int) - 1)).toNat]? = some (.agg [.int .i64 q.res, .int .i64 q.at_, .int .i64 q.len]) := by
       rw [hw1, Int.toNat_natCast, List.getElem?_map, hq]; rfl
      have d7 : decide (x.at_ ≤ q.at_) = false := decide_eq_false (by omega)
      (repeat' ((conv => whnf); first | exact trivial | with_reducible refine zX ?_ | refine ⟨rfl, ?_⟩ | refine ⟨_, rfl, ?_⟩ | with_reducible refine zP ?_ | with_reducible refine zL ?_ | refine ⟨fun _ => ?_, fun _ => ?_⟩ | refine zn ?_ | refine zb rfl ?_ | refine zX ?_ | refine zo rfl ?_ | refine zs ?_ | intro _)); all_goals (try (conv => whnf))
      rw [next1 (n := t.secs.length) hlt (by omega)]
      refine hN (n - 1) _ (by omega) ⟨j + 2, x.at_, by omega, by omega, (fun h => by cases h), (fun k hk => ?_), hI, rfl⟩
      have : k = j + 1 := by omega
      subst this
      exact ⟨x, hsome, rfl⟩
    ·have hfalse : secsB c.res.length t.C 0 t.secs = false := by
      rw [← hI]
      simp only [Bool.and_eq_false_iff, decide_eq_false_iff_not]
      omega
     rw [hfalse]
     clear step hI
     cases i with
     | zero =>
      have hz0 := hz rfl
      subst hz0
      have d5 : decide (((0 : Nat) : Int) > 0) = false := by decide
      have hno : (decide (x.res < 0) || (decide (x.res ≥ ((c.res.map eI).length : Int)) || (!(decide (1 ≤ x.len) && decide (x.len ≤ 200)) || !(decide (1 ≤ x.at_) && decide (x.at_ ≤ IntKind.wrap .i64 (t.C - 1)))))) = true := by
       rw [hC1]
       simp only [Bool.or_eq_true, decide_eq_true_eq, List.length_map, Bool.not_eq_true', Bool.and_eq_false_iff, decide_eq_false_iff_not]
       omega
      generalize (decide (1 ≤ x.len) && decide (x.len ≤ 200)) = y3 at *
      generalize (decide (1 ≤ x.at_) && decide (x.at_ ≤ IntKind.wrap .i64 (t.C - 1))) = y4 at *
      (repeat' ((conv => whnf); first | exact trivial | with_reducible refine zX ?_ | refine ⟨rfl, ?_⟩ | refine ⟨_, rfl, ?_⟩ | with_reducible refine zP ?_ | with_reducible refine zL ?_ | refine ⟨fun _ => ?_, fun _ => ?_⟩ | refine zn ?_ | refine zb rfl ?_ | refine zX ?_ | refine zo rfl ?_ | refine zs ?_ | intro _)); all_goals (try (conv => whnf))
      all_goals first
       | exact bool_end rfl
       | (exfalso
          have e1 : decide (x.res < 0) = false := by assumption
          have e2 : decide (x.res ≥ ((c.res.map eI).length : Int)) = false := by assumption
          have e3 : (!y3) = false := by first | assumption | (simp; assumption)
          have e4 : (!y4) = false := by first | assumption | (simp; assumption)
          rw [e1, e2, e3, e4] at hno
          exact absurd hno (by decide))
     | succ j =>
      obtain ⟨q, hq, hql⟩ := hp j rfl
      have hw1 : IntKind.wrap .i64 (((j + 1 : Nat) : Int) - 1) = (j : Int) := by rw [wrapE (by omega) (by omega)]; omega
      have d5 : decide (((j + 1 : Nat) : Int) > 0) = true := decide_eq_true (by omega)
      have d6 : 0 ≤ IntKind.wrap .i64 (((j + 1 : Nat) : Int) - 1) := by rw [hw1]; omega
      have hrow2 : (t.secs.map eS)[(IntKind.wrap .i64 (((j + 1 : Nat) : Int) - 1)).toNat]? = some (.agg [.int .i64 q.res, .int .i64 q.at_, .int .i64 q.len]) := by
       rw [hw1, Int.toNat_natCast, List.getElem?_map, hq]; rfl
      have hno : (decide (x.res < 0) || (decide (x.res ≥ ((c.res.map eI).length : Int)) || (!(decide (1 ≤ x.len) && decide (x.len ≤ 200)) || (!(decide (1 ≤ x.at_) && decide (x.at_ ≤ IntKind.wrap .i64 (t.C - 1))) || decide (x.at_ ≤ q.at_))))) = true := by
       rw [hC1]
       simp only [Bool.or_eq_true, decide_eq_true_eq, List.length_map, Bool.not_eq_true', Bool.and_eq_false_iff, decide_eq_false_iff_not]
       omega
      generalize (decide (1 ≤ x.len) && decide (x.len ≤ 200)) = y3 at *
      generalize (decide (1 ≤ x.at_) && decide (x.at_ ≤ IntKind.wrap .i64 (t.C - 1))) = y4 at *
      (repeat' ((conv => whnf); first | exact trivial | with_reducible refine zX ?_ | refine ⟨rfl, ?_⟩ | refine ⟨_, rfl, ?_⟩ | with_reducible refine zP ?_ | with_reducible refine zL ?_ | refine ⟨fun _ => ?_, fun _ => ?_⟩ | refine zn ?_ | refine zb rfl ?_ | refine zX ?_ | refine zo rfl ?_ | refine zs ?_ | intro _)); all_goals (try (conv => whnf))
      all_goals first
       | exact bool_end rfl
       | (exfalso
          have e1 : decide (x.res < 0) = false := by assumption
          have e2 : decide (x.res ≥ ((c.res.map eI).length : Int)) = false := by assumption
          have e3 : (!y3) = false := by first | assumption | (simp; assumption)
          have e4 : (!y4) = false := by first | assumption | (simp; assumption)
          have e5 : decide (x.at_ ≤ q.at_) = false := by assumption
          rw [e1, e2, e3, e4, e5] at hno
          exact absurd hno (by decide))
   ·have hb := lt_f (n := (t.secs.map eS).length) (by simpa using hlt)
    rw [List.drop_of_length_le (by omega)] at hI
    rw [← hI]
    (repeat' ((conv => whnf); first | exact trivial | with_reducible refine zX ?_ | refine ⟨rfl, ?_⟩ | refine ⟨_, rfl, ?_⟩ | with_reducible refine zP ?_ | with_reducible refine zL ?_ | refine ⟨fun _ => ?_, fun _ => ?_⟩ | refine zn ?_ | refine zb rfl ?_ | refine zX ?_ | refine zo rfl ?_ | refine zs ?_ | intro _)); all_goals (try (conv => whnf))
    exact bool_end rfl
 ·rw [decide_eq_false hh, Bool.false_and]
  have hno : (decide (t.C < 1) || (decide (t.D < t.C) || (decide (t.T < t.D) || (decide (t.T > 200) || decide (((t.secs.map eS).length : Int) > 2))))) = true := head_no hh
  refine Fn.run k50 rfl ?_
  generalize Tryz.prog = P at *
  (repeat' ((conv => whnf); first | exact trivial | with_reducible refine zX ?_ | refine ⟨rfl, ?_⟩ | refine ⟨_, rfl, ?_⟩ | with_reducible refine zP ?_ | with_reducible refine zL ?_ | refine ⟨fun _ => ?_, fun _ => ?_⟩ | refine zn ?_ | refine zb rfl ?_ | refine zX ?_ | refine zo rfl ?_ | refine zs ?_ | intro _)); all_goals (try (conv => whnf))
  all_goals first
   | exact bool_end rfl
   | (exfalso
      have e1 : decide (t.C < 1) = false := by assumption
      have e2 : decide (t.D < t.C) = false := by assumption
      have e3 : decide (t.T < t.D) = false := by assumption
      have e4 : decide (t.T > 200) = false := by assumption
      have e5 : decide (((t.secs.map eS).length : Int) > 2) = false := by assumption
      rw [e1, e2, e3, e4, e5] at hno
      exact absurd hno (by decide))
end Go.Proofs.YtoepoghmeajocaaGreatDoor.Vc
namespace Go.Proofs.YtoepoghmeajocaaGreatDoor.Vc
open Go.RowKit Ma
theorem tk_head {t : Tk} {n : Int} (h : t.ok n = true) : headT t := by
 unfold Tk.ok at h
 simp only [Bool.and_eq_true, decide_eq_true_eq] at h
 exact h.1
theorem cf_head {c : Cf} (h : c.ok = true) : headR c ∧ c.res.length ≤ 6 := by
 unfold Cf.ok at h
 simp only [Bool.and_eq_true, decide_eq_true_eq] at h
 exact ⟨h.1, h.2.1⟩
theorem lim_of {c : Cf} {t : Tk} {n : Int} (hc : c.ok = true) (ht : t.ok n = true) : Lim c.cores c.lag c.move t.C t.D t.T := by
 obtain ⟨⟨⟨a1, a2⟩, _, ⟨a3, a4⟩, a5, a6⟩, _⟩ := cf_head hc
 obtain ⟨b1, b2, b3, b4, _⟩ := tk_head ht
 exact ⟨a1, a2, a3, a4, a5, a6, b1, b2, b3, b4⟩
theorem two_of {α : Type} {l : List α} (h : l.length = 2) : ∃ a b, l = [a, b] := by
 match l, h with
 | [a, b], _ => exact ⟨a, b, rfl⟩
theorem beq_ne {a b : Int} (h : a ≠ b) : (a == b) = false := by simpa using h
theorem may27 (c : Cf) (hc : c.ok = true) (t : Tk) (ht : t.ok c.res.length = true) (k : Int) (nl : Bool) (ps : List Pc) (hl1 : ps.length ≤ 1000) :
  PureCall Tryz.prog 22 [eCf c, eT t, ePl k nl ps] (.p (.bool (planB c.cores c.lag c.move t.C t.D t.secs.length k ps))) := by
 have hm := maxLen_eq
 obtain ⟨hh, hrl⟩ := cf_head hc
 have hth := tk_head ht
 have hsl : t.secs.length ≤ 2 := hth.2.2.2.2
 have h50 := config50 c (by omega)
 have h51 := task51 c t (by omega)
 have h52 := apart52 c k nl ps hl1
 have h53 := fun hok => split53 c hh t ⟨hth.1, by have := hth.2; omega⟩ k nl ps hok hl1
 rw [hc] at h50
 rw [ht] at h51
 simp only [eCf, eT, ePl] at h50 h51 h52 h53
 cases ha : apartB c.cores ps with
 | false =>
  rw [ha] at h52
  rw [may_apart ha]
  clear h53
  refine Fn.run k22 rfl ?_
  generalize Tryz.prog = P at *
  (repeat' ((conv => whnf); first | exact trivial | with_reducible refine zX ?_ | refine ⟨rfl, ?_⟩ | refine ⟨_, rfl, ?_⟩ | with_reducible refine zP ?_ | with_reducible refine zL ?_ | refine ⟨fun _ => ?_, fun _ => ?_⟩ | refine zn ?_ | refine zb rfl ?_ | refine zX ?_ | refine zo rfl ?_ | refine zs ?_ | intro _)); all_goals (try (conv => whnf))
  all_goals exact bool_end rfl
 | true =>
  rw [ha] at h52
  have h53 := h53 (apartB_iff.1 ha).1
  by_cases k1 : k = 1
  ·subst k1
   have z1 : ((1 : Int) == 1) = true := rfl
   clear h53
   by_cases hn : ps.length = 1
   ·obtain ⟨p, rfl⟩ := List.length_eq_one_iff.1 hn
    have hp : planB c.cores c.lag c.move t.C t.D t.secs.length 1 [p] = (p.off == 0 && (p.len == t.D && p.c == t.C)) := by
     rw [Bool.eq_iff_iff, may_whole ha]; simp
    rw [hp]
    have b1 : ((([p].map eP).length : Int) == 1) = true := rfl
    refine Fn.run k22 rfl ?_
    generalize Tryz.prog = P at *
    (repeat' ((conv => whnf); first | exact trivial | with_reducible refine zX ?_ | refine ⟨rfl, ?_⟩ | refine ⟨_, rfl, ?_⟩ | with_reducible refine zP ?_ | with_reducible refine zL ?_ | refine ⟨fun _ => ?_, fun _ => ?_⟩ | refine zn ?_ | refine zb rfl ?_ | refine zX ?_ | refine zo rfl ?_ | refine zs ?_ | intro _)); all_goals (try (conv => whnf))
    all_goals (refine bool_end ?_; simp_all)
   ·have b1 : (((ps.map eP).length : Int) == 1) = false := beq_ne (by simp; omega)
    have hp : planB c.cores c.lag c.move t.C t.D t.secs.length 1 ps = false := Bool.eq_false_iff.2 fun e => by
     obtain ⟨p, rfl, _⟩ := (may_whole ha).1 e; exact hn rfl
    rw [hp]
    refine Fn.run k22 rfl ?_
    generalize Tryz.prog = P at *
    (repeat' ((conv => whnf); first | exact trivial | with_reducible refine zX ?_ | refine ⟨rfl, ?_⟩ | refine ⟨_, rfl, ?_⟩ | with_reducible refine zP ?_ | with_reducible refine zL ?_ | refine ⟨fun _ => ?_, fun _ => ?_⟩ | refine zn ?_ | refine zb rfl ?_ | refine zX ?_ | refine zo rfl ?_ | refine zs ?_ | intro _)); all_goals (try (conv => whnf))
    all_goals exact bool_end rfl
  ·by_cases k2 : k = 2
   ·subst k2
    have z1 : ((2 : Int) == 1) = false := rfl
    have z2 : ((2 : Int) == 2) = true := rfl
    rw [may_window ha]
    refine Fn.run k22 rfl ?_
    generalize Tryz.prog = P at *
    (repeat' ((conv => whnf); first | exact trivial | with_reducible refine zX ?_ | refine ⟨rfl, ?_⟩ | refine ⟨_, rfl, ?_⟩ | with_reducible refine zP ?_ | with_reducible refine zL ?_ | refine ⟨fun _ => ?_, fun _ => ?_⟩ | refine zn ?_ | refine zb rfl ?_ | refine zX ?_ | refine zo rfl ?_ | refine zs ?_ | intro _)); all_goals (try (conv => whnf))
    all_goals exact bool_end rfl
   ·by_cases k3 : k = 3
    ·subst k3
     have z1 : ((3 : Int) == 1) = false := rfl
     have z2 : ((3 : Int) == 2) = false := rfl
     have z3 : ((3 : Int) == 3) = true := rfl
     cases hs : splitB c.lag c.move t.C t.D t.secs.length ps with
     | false =>
      rw [hs] at h53
      have hp : planB c.cores c.lag c.move t.C t.D t.secs.length 3 ps = false := Bool.eq_false_iff.2 fun e => by
       have := ((may_zero ha).1 e).1; rw [hs] at this; cases this
      rw [hp]
      refine Fn.run k22 rfl ?_
      generalize Tryz.prog = P at *
      (repeat' ((conv => whnf); first | exact trivial | with_reducible refine zX ?_ | refine ⟨rfl, ?_⟩ | refine ⟨_, rfl, ?_⟩ | with_reducible refine zP ?_ | with_reducible refine zL ?_ | refine ⟨fun _ => ?_, fun _ => ?_⟩ | refine zn ?_ | refine zb rfl ?_ | refine zX ?_ | refine zo rfl ?_ | refine zs ?_ | intro _)); all_goals (try (conv => whnf))
      all_goals exact bool_end rfl
     | true =>
      rw [hs] at h53
      by_cases hn : ps.length = 2
      ·obtain ⟨p, q, rfl⟩ := two_of hn
       have hp : planB c.cores c.lag c.move t.C t.D t.secs.length 3 [p, q] = (p.len == p.c) := by
        rw [Bool.eq_iff_iff, may_zero ha, hs]; simp
       rw [hp]
       have b1 : ((([p, q].map eP).length : Int) == 2) = true := rfl
       refine Fn.run k22 rfl ?_
       generalize Tryz.prog = P at *
       (repeat' ((conv => whnf); first | exact trivial | with_reducible refine zX ?_ | refine ⟨rfl, ?_⟩ | refine ⟨_, rfl, ?_⟩ | with_reducible refine zP ?_ | with_reducible refine zL ?_ | refine ⟨fun _ => ?_, fun _ => ?_⟩ | refine zn ?_ | refine zb rfl ?_ | refine zX ?_ | refine zo rfl ?_ | refine zs ?_ | intro _)); all_goals (try (conv => whnf))
       all_goals exact bool_end rfl
      ·have b1 : (((ps.map eP).length : Int) == 2) = false := beq_ne (by simp; omega)
       have hp : planB c.cores c.lag c.move t.C t.D t.secs.length 3 ps = false := Bool.eq_false_iff.2 fun e => by
        obtain ⟨p, q, rfl, _⟩ := ((may_zero ha).1 e).2; exact hn rfl
       rw [hp]
       refine Fn.run k22 rfl ?_
       generalize Tryz.prog = P at *
       (repeat' ((conv => whnf); first | exact trivial | with_reducible refine zX ?_ | refine ⟨rfl, ?_⟩ | refine ⟨_, rfl, ?_⟩ | with_reducible refine zP ?_ | with_reducible refine zL ?_ | refine ⟨fun _ => ?_, fun _ => ?_⟩ | refine zn ?_ | refine zb rfl ?_ | refine zX ?_ | refine zo rfl ?_ | refine zs ?_ | intro _)); all_goals (try (conv => whnf))
       all_goals exact bool_end rfl
    ·rw [may_other k1 k2 k3]
     have b1 := beq_ne k1
     have b2 := beq_ne k2
     have b3 := beq_ne k3
     clear h53
     refine Fn.run k22 rfl ?_
     generalize Tryz.prog = P at *
     (repeat' ((conv => whnf); first | exact trivial | with_reducible refine zX ?_ | refine ⟨rfl, ?_⟩ | refine ⟨_, rfl, ?_⟩ | with_reducible refine zP ?_ | with_reducible refine zL ?_ | refine ⟨fun _ => ?_, fun _ => ?_⟩ | refine zn ?_ | refine zb rfl ?_ | refine zX ?_ | refine zo rfl ?_ | refine zs ?_ | intro _)); all_goals (try (conv => whnf))
     all_goals exact bool_end rfl
theorem plan_end {cores lag move C D : Int} {nsec : Nat} {kind : Int} {ps : List Pc} (h : Pre cores lag move ps) (h1 : ps ≠ []) (h2 : sumC ps = C + (ps.length - 1 : Int) * move) (h3 : lastEnd ps ≤ D) :
  planB cores lag move C D nsec kind ps = true ↔ Ma.kindOk D nsec kind ps := by
 rw [planB_iff, plan_pre]
 exact ⟨fun h => h.2.2.2.2, fun hk => ⟨h, h1, h2, h3, hk⟩⟩
theorem plan_no {cores lag move C D : Int} {nsec : Nat} {kind : Int} {ps : List Pc} (h : ¬ (Pre cores lag move ps ∧ ps ≠ [] ∧ sumC ps = C + (ps.length - 1 : Int) * move ∧ lastEnd ps ≤ D)) : planB cores lag move C D nsec kind ps = false :=
 Bool.eq_false_iff.2 fun e => by
  rw [planB_iff, plan_pre] at e
  exact h ⟨e.1, e.2.1, e.2.2.1, e.2.2.2.1⟩
theorem plan36 (c : Cf) (hc : headR c) (t : Tk) (hC : 1 ≤ t.C ∧ t.C ≤ 200) (k : Int) (nl : Bool) (ps : List Pc) (hl1 : ps.length ≤ 1000) :
  PureCall Tryz.prog 23 [eCf c, eT t, ePl k nl ps] (.p (.bool (planB c.cores c.lag c.move t.C t.D t.secs.length k ps))) := by
 have hm := maxLen_eq
 obtain ⟨⟨c1, c2⟩, ⟨c3, c4⟩, ⟨c5, c6⟩, c7, c8⟩ := hc
 have hpc := fun p => piece62 c p
 have hrow : ∀ (j : Nat) (hj : j < ps.length), (ps.map eP)[j]? = some (.agg [.int .i64 ps[j].core, .int .i64 ps[j].off, .int .i64 ps[j].len, .int .i64 ps[j].c]) := fun j hj => by simp [hj, eP]
 simp only [eCf, eP] at hpc
 refine Fn.run k23 rfl ?_
 generalize Tryz.prog = P at *
 (repeat' ((conv => whnf); first | exact trivial | with_reducible refine zX ?_ | refine ⟨rfl, ?_⟩ | refine ⟨_, rfl, ?_⟩ | with_reducible refine zP ?_ | with_reducible refine zL ?_ | refine ⟨fun _ => ?_, fun _ => ?_⟩ | refine zn ?_ | refine zb rfl ?_ | refine zX ?_ | refine zo rfl ?_ | refine zs ?_ | intro _)); all_goals (try (conv => whnf))
 refine loop_inv (fun n s => ∃ i : Nat, n + i = ps.length ∧ Pre c.cores c.lag c.move (ps.take i) ∧
  s = ⟨mkT 171 [(3, .addr 0 5 0 0), (4, .addr 1 4 0 0), (5, .addr 2 2 0 0), (7, .p (.int .i64 (ps.map eP).length)), (8, .p (.int .i64 (sumC (ps.take i)))), (9, .p (.int .i64 i))], [some (bCf c true), some (bTk t), some (bPl k nl ps), none]⟩) ps.length ?_ ?_
 ·conv => whnf
  exact ⟨0, rfl, Pre.nil, rfl⟩
 ·rintro n st b N ⟨i, hi, hpre, e⟩ hN
  cases e
  by_cases hlt : i < ps.length
  ·have hb := lt_t (n := (ps.map eP).length) (by simpa using hlt)
   have hr1 := hrow i hlt
   have hp := hpc ps[i]
   have hst := sum_take hlt
   have hsb := sum_bound hpre.pcs
   have htl : (ps.take i).length ≤ 1000 := by simp; omega
   have hadd := fun h1 h2 h3 h4 => Pre.add (cores := c.cores) (lag := c.lag) (move := c.move) hlt hpre h1 h2 h3 h4
   have hnext := fun h : Pre c.cores c.lag c.move ps => h.next_of hlt
   have hno : ¬ (ps[i].ok c.cores = true ∧ (∀ p, p ∈ ps.take i → p.core ≠ ps[i].core) ∧ (i = 0 → ps[i].off = 0) ∧ ∀ j (hj : j < ps.length), i = j + 1 → ps[j].off + ps[j].len + c.lag ≤ ps[i].off ∧ c.move < ps[i].c) → planB c.cores c.lag c.move t.C t.D t.secs.length k ps = false := fun hn => plan_no fun h => hn (hnext h.1)
   have hprev : ∀ j (hj : j < ps.length), i = j + 1 → ps[j].ok c.cores = true := fun j hj e => hpre.pcs _ (by
    subst e; exact List.mem_iff_getElem.2 ⟨j, by simp; omega, by simp⟩)
   generalize hxi : ps[i] = x at *
   cases hok : x.ok c.cores with
   | false =>
    rw [hok] at hp
    rw [hno fun h => by have := h.1; rw [hok] at this; cases this]
    clear hN hrow hadd hnext hno hprev
    (repeat' ((conv => whnf); first | exact trivial | with_reducible refine zX ?_ | refine ⟨rfl, ?_⟩ | refine ⟨_, rfl, ?_⟩ | with_reducible refine zP ?_ | with_reducible refine zL ?_ | refine ⟨fun _ => ?_, fun _ => ?_⟩ | refine zn ?_ | refine zb rfl ?_ | refine zX ?_ | refine zo rfl ?_ | refine zs ?_ | intro _)); all_goals (try (conv => whnf))
    all_goals exact bool_end rfl
   | true =>
    rw [hok] at hp
    have ho := Pc.ok_iff.1 hok
    have w0 : IntKind.wrap .i64 (sumC (ps.take i) + x.c) = sumC (ps.take (i + 1)) := by rw [hst]; exact wrapE (by omega) (by omega)
    have hstep : ∀ {s : St}, Pre c.cores c.lag c.move (ps.take (i + 1)) → s = ⟨mkT 171 [(3, .addr 0 5 0 0), (4, .addr 1 4 0 0), (5, .addr 2 2 0 0), (7, .p (.int .i64 (ps.map eP).length)), (8, .p (.int .i64 (IntKind.wrap .i64 (sumC (ps.take i) + x.c)))), (9, .p (.int .i64 (IntKind.wrap .i64 ((i : Int) + 1))))], [some (bCf c true), some (bTk t), some (bPl k nl ps), none]⟩ → N s := fun hk e => by
     rw [next1 (n := ps.length) hlt (by omega), w0] at e
     exact hN (n - 1) _ (by omega) ⟨i + 1, by omega, hk, e⟩
    (repeat' ((conv => whnf); first | exact trivial | with_reducible refine zX ?_ | refine ⟨rfl, ?_⟩ | refine ⟨_, rfl, ?_⟩ | with_reducible refine zP ?_ | with_reducible refine zL ?_ | refine ⟨fun _ => ?_, fun _ => ?_⟩ | refine zn ?_ | refine zb rfl ?_ | refine zX ?_ | refine zo rfl ?_ | refine zs ?_ | intro _)); all_goals (try (conv => whnf))
    refine loop_inv (fun n s => ∃ j : Nat, n + j = i ∧ (∀ p, p ∈ ps.take j → p.core ≠ x.core) ∧
     s = ⟨mkT 171 [(3, .addr 0 5 0 0), (4, .addr 1 4 0 0), (5, .addr 2 2 0 0), (7, .p (.int .i64 (ps.map eP).length)), (8, .p (.int .i64 (IntKind.wrap .i64 (sumC (ps.take i) + x.c)))), (9, .p (.int .i64 i)), (10, .addr 3 4 0 0), (11, .p (.int .i64 j))], [some (bCf c true), some (bTk t), some (bPl k nl ps), some ⟨true, 4, [[.p (.int .i64 x.core), .p (.int .i64 x.off), .p (.int .i64 x.len), .p (.int .i64 x.c)]], false⟩]⟩) i ?_ ?_
    ·conv => whnf
     exact ⟨0, rfl, by simp, rfl⟩
    ·rintro n2 st2 b2 N2 ⟨j, hj, hap, e⟩ hN2
     cases e
     by_cases hjl : j < i
     ·have hb2 : decide ((j : Int) < (i : Int)) = true := lt_t hjl
      have hr2 := hrow j (by omega)
      have hmem : ps[j]'(by omega) ∈ ps.take i := List.mem_iff_getElem.2 ⟨j, by simp; omega, by simp⟩
      have htk := List.take_succ_eq_append_getElem (show j < ps.length by omega)
      generalize ps[j]'(by omega) = y at *
      by_cases hcc : y.core = x.core
      ·have d1 : (y.core == x.core) = true := by simpa using hcc
       rw [hno fun h => h.2.1 y hmem hcc]
       clear hN hrow hadd hnext hno hprev hstep hN2
       (repeat' ((conv => whnf); first | exact trivial | with_reducible refine zX ?_ | refine ⟨rfl, ?_⟩ | refine ⟨_, rfl, ?_⟩ | with_reducible refine zP ?_ | with_reducible refine zL ?_ | refine ⟨fun _ => ?_, fun _ => ?_⟩ | refine zn ?_ | refine zb rfl ?_ | refine zX ?_ | refine zo rfl ?_ | refine zs ?_ | intro _)); all_goals (try (conv => whnf))
       all_goals exact bool_end rfl
      ·have d1 : (y.core == x.core) = false := by simpa using hcc
       clear hN hrow hadd hnext hno hprev hstep
       (repeat' ((conv => whnf); first | exact trivial | with_reducible refine zX ?_ | refine ⟨rfl, ?_⟩ | refine ⟨_, rfl, ?_⟩ | with_reducible refine zP ?_ | with_reducible refine zL ?_ | refine ⟨fun _ => ?_, fun _ => ?_⟩ | refine zn ?_ | refine zb rfl ?_ | refine zX ?_ | refine zo rfl ?_ | refine zs ?_ | intro _)); all_goals (try (conv => whnf))
       rw [next1 (n := i) hjl (by omega)]
       refine hN2 (n2 - 1) _ (by omega) ⟨j + 1, by omega, fun p hp => ?_, rfl⟩
       rw [htk] at hp
       rcases List.mem_append.1 hp with hp | hp
       ·exact hap p hp
       ·simp only [List.mem_singleton] at hp; subst hp; exact hcc
     ·have hb2 : decide ((j : Int) < (i : Int)) = false := lt_f hjl
      have hji : j = i := by omega
      subst hji
      clear hN2
      cases j with
      | zero =>
       have d2 : decide (((0 : Nat) : Int) > 0) = false := rfl
       have d3 : (((0 : Nat) : Int) == 0) = true := rfl
       by_cases hoff : x.off = 0
       ·have d1 : (x.off != 0) = false := by simpa using hoff
        have hk := hadd hok hap (fun _ => hoff) (fun j hj e => by omega)
        clear hN hrow hadd hnext hno hprev
        (repeat' ((conv => whnf); first | exact trivial | with_reducible refine zX ?_ | refine ⟨rfl, ?_⟩ | refine ⟨_, rfl, ?_⟩ | with_reducible refine zP ?_ | with_reducible refine zL ?_ | refine ⟨fun _ => ?_, fun _ => ?_⟩ | refine zn ?_ | refine zb rfl ?_ | refine zX ?_ | refine zo rfl ?_ | refine zs ?_ | intro _)); all_goals (try (conv => whnf))
        exact hstep hk rfl
       ·have d1 : (x.off != 0) = true := by simpa using hoff
        rw [hno fun h => hoff (h.2.2.1 rfl)]
        clear hN hrow hadd hnext hno hprev hstep
        (repeat' ((conv => whnf); first | exact trivial | with_reducible refine zX ?_ | refine ⟨rfl, ?_⟩ | refine ⟨_, rfl, ?_⟩ | with_reducible refine zP ?_ | with_reducible refine zL ?_ | refine ⟨fun _ => ?_, fun _ => ?_⟩ | refine zn ?_ | refine zb rfl ?_ | refine zX ?_ | refine zo rfl ?_ | refine zs ?_ | intro _)); all_goals (try (conv => whnf))
        all_goals exact bool_end rfl
      | succ j =>
       have d2 : decide (((j + 1 : Nat) : Int) > 0) = true := decide_eq_true (by omega)
       have d3 : (((j + 1 : Nat) : Int) == 0) = false := beq_ne (by omega)
       have e1 : IntKind.wrap .i64 (((j + 1 : Nat) : Int) - 1) = (j : Int) := by rw [wrapE (by omega) (by omega)]; omega
       have r1 := hrow j (by omega)
       have g1 : (ps.map eP)[(IntKind.wrap .i64 (((j + 1 : Nat) : Int) - 1)).toNat]? = some (.agg [.int .i64 ps[j].core, .int .i64 ps[j].off, .int .i64 ps[j].len, .int .i64 ps[j].c]) := by rw [e1]; exact r1
       have g0 : (0 : Int) ≤ IntKind.wrap .i64 (((j + 1 : Nat) : Int) - 1) := by rw [e1]; omega
       have o2 := Pc.ok_iff.1 (hprev j (by omega) rfl)
       have hk2 := fun (hk : ps[j].off + ps[j].len + c.lag ≤ x.off ∧ c.move < x.c) => hadd hok hap (fun e => by omega) (fun i' hi' e => by
        have e : i' = j := by omega
        subst e
        exact hk)
       have hno2 := fun (hn : ¬ (ps[j].off + ps[j].len + c.lag ≤ x.off ∧ c.move < x.c)) => hno fun h => hn (h.2.2.2 j (by omega) rfl)
       have w1 : IntKind.wrap .i64 (IntKind.wrap .i64 (ps[j].off + ps[j].len) + c.lag) = ps[j].off + ps[j].len + c.lag := by rw [wrapE (n := ps[j].off + ps[j].len) (by omega) (by omega), wrapE (by omega) (by omega)]
       generalize ps[j]'(by omega) = y at *
       clear hN hrow hadd hnext hno hprev
       by_cases k1 : x.off < y.off + y.len + c.lag
       ·have d4 : decide (x.off < IntKind.wrap .i64 (IntKind.wrap .i64 (y.off + y.len) + c.lag)) = true := decide_eq_true (by rw [w1]; exact k1)
        rw [hno2 (by omega)]
        (repeat' ((conv => whnf); first | exact trivial | with_reducible refine zX ?_ | refine ⟨rfl, ?_⟩ | refine ⟨_, rfl, ?_⟩ | with_reducible refine zP ?_ | with_reducible refine zL ?_ | refine ⟨fun _ => ?_, fun _ => ?_⟩ | refine zn ?_ | refine zb rfl ?_ | refine zX ?_ | refine zo rfl ?_ | refine zs ?_ | intro _)); all_goals (try (conv => whnf))
        all_goals exact bool_end rfl
       ·have d4 : decide (x.off < IntKind.wrap .i64 (IntKind.wrap .i64 (y.off + y.len) + c.lag)) = false := decide_eq_false (by rw [w1]; exact k1)
        by_cases k2 : x.c ≤ c.move
        ·have d5 : decide (x.c ≤ c.move) = true := decide_eq_true k2
         rw [hno2 (by omega)]
         (repeat' ((conv => whnf); first | exact trivial | with_reducible refine zX ?_ | refine ⟨rfl, ?_⟩ | refine ⟨_, rfl, ?_⟩ | with_reducible refine zP ?_ | with_reducible refine zL ?_ | refine ⟨fun _ => ?_, fun _ => ?_⟩ | refine zn ?_ | refine zb rfl ?_ | refine zX ?_ | refine zo rfl ?_ | refine zs ?_ | intro _)); all_goals (try (conv => whnf))
         all_goals exact bool_end rfl
        ·have d5 : decide (x.c ≤ c.move) = false := decide_eq_false k2
         (repeat' ((conv => whnf); first | exact trivial | with_reducible refine zX ?_ | refine ⟨rfl, ?_⟩ | refine ⟨_, rfl, ?_⟩ | with_reducible refine zP ?_ | with_reducible refine zL ?_ | refine ⟨fun _ => ?_, fun _ => ?_⟩ | refine zn ?_ | refine zb rfl ?_ | refine zX ?_ | refine zo rfl ?_ | refine zs ?_ | intro _)); all_goals (try (conv => whnf))
         exact hstep (hk2 (by omega)) rfl
  ·have hb := lt_f (i := i) (n := (ps.map eP).length) (by simpa using hlt)
   have htk : ps.take i = ps := List.take_of_length_le (by omega)
   rw [htk] at hpre
   rw [htk]
   clear hN hpc
   by_cases hn : ps = []
   ·have d1 : (((ps.map eP).length : Int) == 0) = true := by subst hn; rfl
    rw [plan_no fun h => h.2.1 hn]
    (repeat' ((conv => whnf); first | exact trivial | with_reducible refine zX ?_ | refine ⟨rfl, ?_⟩ | refine ⟨_, rfl, ?_⟩ | with_reducible refine zP ?_ | with_reducible refine zL ?_ | refine ⟨fun _ => ?_, fun _ => ?_⟩ | refine zn ?_ | refine zb rfl ?_ | refine zX ?_ | refine zo rfl ?_ | refine zs ?_ | intro _)); all_goals (try (conv => whnf))
    all_goals exact bool_end rfl
   have hpos : 0 < ps.length := List.length_pos_iff.2 hn
   have d1 : (((ps.map eP).length : Int) == 0) = false := beq_ne (by simp; omega)
   have hil : ps.length - 1 < ps.length := by omega
   have hle := lastEnd_getElem hn hil
   have r1 := hrow (ps.length - 1) hil
   have r0 := hrow 0 hpos
   have o1 := Pc.ok_iff.1 (hpre.pcs _ (List.getElem_mem hil))
   have e1 : IntKind.wrap .i64 (((ps.map eP).length : Int) - 1) = ((ps.length - 1 : Nat) : Int) := by rw [List.length_map, wrapE (by omega) (by omega)]; omega
   have g0 : (0 : Int) ≤ IntKind.wrap .i64 (((ps.map eP).length : Int) - 1) := by rw [e1]; omega
   have g1 : (ps.map eP)[(IntKind.wrap .i64 (((ps.map eP).length : Int) - 1)).toNat]? = some (.agg [.int .i64 ps[ps.length - 1].core, .int .i64 ps[ps.length - 1].off, .int .i64 ps[ps.length - 1].len, .int .i64 ps[ps.length - 1].c]) := by rw [e1]; exact r1
   have w1 : IntKind.wrap .i64 (ps[ps.length - 1].off + ps[ps.length - 1].len) = lastEnd ps := by rw [wrapE (by omega) (by omega), hle]
   have hmv : 0 ≤ ((ps.length : Int) - 1) * c.move ∧ ((ps.length : Int) - 1) * c.move ≤ 5000 := by
    refine ⟨Int.mul_nonneg (by omega) c7, ?_⟩
    calc ((ps.length : Int) - 1) * c.move ≤ 1000 * 5 := Int.mul_le_mul (by omega) (by omega) (by omega) (by omega)
     _ = 5000 := by omega
   have w2 : IntKind.wrap .i64 (t.C + IntKind.wrap .i64 (IntKind.wrap .i64 (((ps.map eP).length : Int) - 1) * c.move)) = t.C + ((ps.length : Int) - 1) * c.move := by
    rw [e1, show ((ps.length - 1 : Nat) : Int) = (ps.length : Int) - 1 by omega, wrapE (n := ((ps.length : Int) - 1) * c.move) (by omega) (by omega), wrapE (by omega) (by omega)]
   generalize hz : ps[ps.length - 1] = z at *
   by_cases k1 : sumC ps = t.C + ((ps.length : Int) - 1) * c.move
   case neg =>
    have d2 : (sumC ps != IntKind.wrap .i64 (t.C + IntKind.wrap .i64 (IntKind.wrap .i64 (((ps.map eP).length : Int) - 1) * c.move))) = true := by rw [w2]; simpa using k1
    rw [plan_no fun h => k1 h.2.2.1]
    (repeat' ((conv => whnf); first | exact trivial | with_reducible refine zX ?_ | refine ⟨rfl, ?_⟩ | refine ⟨_, rfl, ?_⟩ | with_reducible refine zP ?_ | with_reducible refine zL ?_ | refine ⟨fun _ => ?_, fun _ => ?_⟩ | refine zn ?_ | refine zb rfl ?_ | refine zX ?_ | refine zo rfl ?_ | refine zs ?_ | intro _)); all_goals (try (conv => whnf))
    all_goals exact bool_end rfl
   have d2 : (sumC ps != IntKind.wrap .i64 (t.C + IntKind.wrap .i64 (IntKind.wrap .i64 (((ps.map eP).length : Int) - 1) * c.move))) = false := by rw [w2]; simpa using k1
   by_cases k2 : lastEnd ps ≤ t.D
   case neg =>
    have d3 : decide (IntKind.wrap .i64 (z.off + z.len) > t.D) = true := decide_eq_true (by rw [w1]; omega)
    rw [plan_no fun h => k2 h.2.2.2]
    (repeat' ((conv => whnf); first | exact trivial | with_reducible refine zX ?_ | refine ⟨rfl, ?_⟩ | refine ⟨_, rfl, ?_⟩ | with_reducible refine zP ?_ | with_reducible refine zL ?_ | refine ⟨fun _ => ?_, fun _ => ?_⟩ | refine zn ?_ | refine zb rfl ?_ | refine zX ?_ | refine zo rfl ?_ | refine zs ?_ | intro _)); all_goals (try (conv => whnf))
    all_goals exact bool_end rfl
   have d3 : decide (IntKind.wrap .i64 (z.off + z.len) > t.D) = false := decide_eq_false (by rw [w1]; omega)
   have hend := fun k => plan_end (kind := k) (nsec := t.secs.length) (C := t.C) (D := t.D) hpre hn k1 k2
   have hkd : ∀ {b : Bool}, (b = true ↔ Ma.kindOk t.D t.secs.length k ps) → planB c.cores c.lag c.move t.C t.D t.secs.length k ps = b := fun h => by
    rw [Bool.eq_iff_iff, hend, h]
   by_cases q1 : k = 1
   ·subst q1
    have z1 : ((1 : Int) == 1) = true := rfl
    by_cases hl : ps.length = 1
    ·have b1 : (((ps.map eP).length : Int) == 1) = true := by simp [hl]
     have hz0 : ps[0] = z := by rw [← hz]; congr 1; omega
     rw [hz0] at r0
     rw [hkd (b := (z.len == t.D)) (by
      obtain ⟨p, rfl⟩ := List.length_eq_one_iff.1 hl
      simp only [List.getElem_cons_zero] at hz0
      subst hz0
      simp [Ma.kindOk])]
     clear hrow hend hkd
     (repeat' ((conv => whnf); first | exact trivial | with_reducible refine zX ?_ | refine ⟨rfl, ?_⟩ | refine ⟨_, rfl, ?_⟩ | with_reducible refine zP ?_ | with_reducible refine zL ?_ | refine ⟨fun _ => ?_, fun _ => ?_⟩ | refine zn ?_ | refine zb rfl ?_ | refine zX ?_ | refine zo rfl ?_ | refine zs ?_ | intro _)); all_goals (try (conv => whnf))
     all_goals exact bool_end rfl
    ·have b1 : (((ps.map eP).length : Int) == 1) = false := beq_ne (by simp; omega)
     rw [hkd (b := false) (by
      simp only [Bool.false_eq_true, false_iff]
      rintro (⟨_, p, rfl, _⟩ | ⟨e, _⟩ | ⟨e, _⟩)
      ·exact hl rfl
      ·cases e
      ·cases e)]
     clear hrow hend hkd
     (repeat' ((conv => whnf); first | exact trivial | with_reducible refine zX ?_ | refine ⟨rfl, ?_⟩ | refine ⟨_, rfl, ?_⟩ | with_reducible refine zP ?_ | with_reducible refine zL ?_ | refine ⟨fun _ => ?_, fun _ => ?_⟩ | refine zn ?_ | refine zb rfl ?_ | refine zX ?_ | refine zo rfl ?_ | refine zs ?_ | intro _)); all_goals (try (conv => whnf))
     all_goals exact bool_end rfl
   ·have b0 := beq_ne q1
    by_cases q2 : k = 2
    ·subst q2
     have z1 : ((2 : Int) == 1) = false := rfl
     have z2 : ((2 : Int) == 2) = true := rfl
     have hk2 : Ma.kindOk t.D t.secs.length 2 ps ↔ 2 ≤ ps.length ∧ t.secs.length = 0 := by
      constructor
      ·rintro (⟨e, _⟩ | ⟨_, e1, e2⟩ | ⟨e, _⟩)
       ·cases e
       ·exact ⟨e1, e2⟩
       ·cases e
      ·intro h; exact .inr (.inl ⟨rfl, h.1, h.2⟩)
     by_cases hl : 2 ≤ ps.length
     ·have b1 : decide (((ps.map eP).length : Int) ≥ 2) = true := decide_eq_true (by rw [List.length_map]; omega)
      rw [hkd (b := (((t.secs.map eS).length : Int) == 0)) (by
       rw [hk2, beq_iff_eq, List.length_map]; omega)]
      clear hrow hend hkd
      (repeat' ((conv => whnf); first | exact trivial | with_reducible refine zX ?_ | refine ⟨rfl, ?_⟩ | refine ⟨_, rfl, ?_⟩ | with_reducible refine zP ?_ | with_reducible refine zL ?_ | refine ⟨fun _ => ?_, fun _ => ?_⟩ | refine zn ?_ | refine zb rfl ?_ | refine zX ?_ | refine zo rfl ?_ | refine zs ?_ | intro _)); all_goals (try (conv => whnf))
      all_goals exact bool_end rfl
     ·have b1 : decide (((ps.map eP).length : Int) ≥ 2) = false := decide_eq_false (by rw [List.length_map]; omega)
      rw [hkd (b := false) (by
       rw [hk2]; simp only [Bool.false_eq_true, false_iff]; omega)]
      clear hrow hend hkd
      (repeat' ((conv => whnf); first | exact trivial | with_reducible refine zX ?_ | refine ⟨rfl, ?_⟩ | refine ⟨_, rfl, ?_⟩ | with_reducible refine zP ?_ | with_reducible refine zL ?_ | refine ⟨fun _ => ?_, fun _ => ?_⟩ | refine zn ?_ | refine zb rfl ?_ | refine zX ?_ | refine zo rfl ?_ | refine zs ?_ | intro _)); all_goals (try (conv => whnf))
      all_goals exact bool_end rfl
    ·have b02 := beq_ne q2
     by_cases q3 : k = 3
     ·subst q3
      have z1 : ((3 : Int) == 1) = false := rfl
      have z2 : ((3 : Int) == 2) = false := rfl
      have z3 : ((3 : Int) == 3) = true := rfl
      by_cases hl : ps.length = 2
      ·have b1 : (((ps.map eP).length : Int) == 2) = true := by simp [hl]
       rw [hkd (b := (((t.secs.map eS).length : Int) == 0) && (ps[0].len == ps[0].c)) (by
        obtain ⟨p, q, rfl⟩ := two_of hl
        simp [Ma.kindOk])]
       generalize ps[0] = x0 at *
       clear hrow hend hkd
       (repeat' ((conv => whnf); first | exact trivial | with_reducible refine zX ?_ | refine ⟨rfl, ?_⟩ | refine ⟨_, rfl, ?_⟩ | with_reducible refine zP ?_ | with_reducible refine zL ?_ | refine ⟨fun _ => ?_, fun _ => ?_⟩ | refine zn ?_ | refine zb rfl ?_ | refine zX ?_ | refine zo rfl ?_ | refine zs ?_ | intro _)); all_goals (try (conv => whnf))
       all_goals (refine bool_end ?_; simp_all)
      ·have b1 : (((ps.map eP).length : Int) == 2) = false := beq_ne (by simp; omega)
       rw [hkd (b := false) (by
        simp only [Bool.false_eq_true, false_iff]
        rintro (⟨e, _⟩ | ⟨e, _⟩ | ⟨_, _, p, q, rfl, _⟩)
        ·cases e
        ·cases e
        ·exact hl rfl)]
       clear hrow hend hkd
       (repeat' ((conv => whnf); first | exact trivial | with_reducible refine zX ?_ | refine ⟨rfl, ?_⟩ | refine ⟨_, rfl, ?_⟩ | with_reducible refine zP ?_ | with_reducible refine zL ?_ | refine ⟨fun _ => ?_, fun _ => ?_⟩ | refine zn ?_ | refine zb rfl ?_ | refine zX ?_ | refine zo rfl ?_ | refine zs ?_ | intro _)); all_goals (try (conv => whnf))
       all_goals exact bool_end rfl
     ·have b03 := beq_ne q3
      rw [hkd (b := false) (by
       simp only [Bool.false_eq_true, false_iff]
       rintro (⟨e, _⟩ | ⟨e, _⟩ | ⟨e, _⟩)
       ·exact q1 e
       ·exact q2 e
       ·exact q3 e)]
      clear hrow hend hkd
      (repeat' ((conv => whnf); first | exact trivial | with_reducible refine zX ?_ | refine ⟨rfl, ?_⟩ | refine ⟨_, rfl, ?_⟩ | with_reducible refine zP ?_ | with_reducible refine zL ?_ | refine ⟨fun _ => ?_, fun _ => ?_⟩ | refine zn ?_ | refine zb rfl ?_ | refine zX ?_ | refine zo rfl ?_ | refine zs ?_ | intro _)); all_goals (try (conv => whnf))
      all_goals exact bool_end rfl
end Go.Proofs.YtoepoghmeajocaaGreatDoor.Vc
namespace Go.Proofs.YtoepoghmeajocaaGreatDoor.Vc
open Go.RowKit Ma
theorem ownRows_Q (l : List Ma.Place) : ownRows (l.map eQ) = l.map rQ := by
 induction l with
 | nil => rfl
 | cons a l ih => simp only [List.map_cons, ownRows, ih]; rfl
theorem scalR_Q (l : List Ma.Place) : scalR (l.map rQ) = true := by
 induction l with
 | nil => rfl
 | cons a l ih => simp only [List.map_cons, scalR, ih]; rfl
theorem copiesR_Q (l : List Ma.Place) : copiesR (l.map rQ) = l.map rQ := by
 induction l with
 | nil => rfl
 | cons a l ih => simp only [List.map_cons, copiesR, ih]; rfl
theorem rowsP_Q (l : List Ma.Place) : rowsP true (l.map rQ) = some (l.map eQ) := by
 induction l with
 | nil => rfl
 | cons a l ih => simp only [List.map_cons, rowsP, ih]; rfl
noncomputable def mostsV (ls : LL) (w T : Int) : List Int := ls.map fun p => mostV p.2 w T w
theorem mosts_take {ls : LL} {w T : Int} {i : Nat} (h : i < ls.length) : mostsV (ls.take (i + 1)) w T = mostsV (ls.take i) w T ++ [mostV ls[i].2 w T w] := by
 unfold mostsV; rw [List.take_succ_eq_append_getElem h, List.map_append]; rfl
noncomputable def bestR (ls : LL) (w T move : Int) (n : Nat) : DV :=
 if (places move (mostsV ls w T)).length < n then .ow 2 true [] else .p (.sl 2 false ((bestV (places move (mostsV ls w T)) n).map eQ))
theorem best55 (c : Cf) (nl : Bool) (ls : LL) (h : LLok ls) (hfew : ls.length ≤ 12) (t : Tk) (n : Nat) (hn : 1 ≤ n) (w : Int) (hw : 0 ≤ w) :
  PureCall Tryz.prog 54 [eCf c, sLL nl ls, eT t, .int .i64 n, .int .i64 w] (bestR ls w t.T c.move n) := by
 have hm := maxLen_eq
 have hft := fun (p : Bool × List Ld) (hp : p ∈ ls) => fit72 p.1 p.2 (h.nils p hp) (h.len p hp) w t.T w (by omega)
 unfold bestR
 have hpl := placesFrom_length (move := c.move) (mostsV ls w t.T) 0
 have hml : (mostsV ls w t.T).length = ls.length := by simp [mostsV]
 have hbl : (bestV (places c.move (mostsV ls w t.T)) n).length = if (places c.move (mostsV ls w t.T)).length < n then 0 else n := bestV_length
 have hbd : bestV (places c.move (mostsV ls w t.T)) n = if (places c.move (mostsV ls w t.T)).length < n then [] else isort ltC ((isort ltX (places c.move (mostsV ls w t.T))).take n) := rfl
 have hpl0 : (places c.move (mostsV ls w t.T)).length ≤ 12 := by unfold places; omega
 have hLX := (isort_length ltX (places c.move (mostsV ls w t.T)))
 have h73 := byX (places c.move (mostsV ls w t.T)) hpl0 true
 have h76 := fun hle : n ≤ (places c.move (mostsV ls w t.T)).length => byC ((isort ltX (places c.move (mostsV ls w t.T))).take n) (by rw [List.length_take]; omega) true
 rw [List.length_take, hLX, List.map_take] at h76
 generalize hR : (if (places c.move (mostsV ls w t.T)).length < n then DV.ow 2 true [] else .p (.sl 2 false ((bestV (places c.move (mostsV ls w t.T)) n).map eQ))) = R
 refine Fn.run k54 (by rw [← hR]; split <;> rfl) ?_
 generalize Tryz.prog = P at *
 (repeat' ((conv => whnf); first | exact trivial | with_reducible refine zX ?_ | refine ⟨rfl, ?_⟩ | refine ⟨_, rfl, ?_⟩ | with_reducible refine zP ?_ | with_reducible refine zL ?_ | refine ⟨fun _ => ?_, fun _ => ?_⟩ | refine zn ?_ | refine zb rfl ?_ | refine zX ?_ | refine zo rfl ?_ | refine zs ?_ | intro _)); all_goals (try (conv => whnf))
 rename_i hlen
 refine loop_inv (fun m s => ∃ (i : Nat) (b : Bool), m + i = ls.length ∧ s = ⟨mkT 51 [(3, .p (.int .i64 n)), (4, .p (.int .i64 w)), (5, .addr 0 5 0 0), (7, .addr 1 4 0 0), (11, .ow 2 b ((places c.move (mostsV (ls.take i) w t.T)).map eQ)), (15, .p (sLL nl ls)), (16, .p (.int .i64 (ls.map eC).length)), (17, .p (.int .i64 i))], [some (bCf c true), some (bTk t), none]⟩) ls.length ?_ ?_
 ·conv => whnf
  exact ⟨0, true, rfl, rfl⟩
 ·rintro m st bb N ⟨i, b, hi, e⟩ hN
  cases e
  by_cases hil : i < ls.length
  ·have hrow : (ls.map eC)[i]? = some (sL ls[i].1 ls[i].2) := by simp [hil, eC]
   have hb := lt_t (n := (ls.map eC).length) (by simpa using hil)
   have hc := hft ls[i] (List.getElem_mem _)
   have hpt := placesFrom_append (move := c.move) (mostsV (ls.take i) w t.T) (mostV ls[i].2 w t.T w) 0
   rw [← mosts_take hil] at hpt
   have hml2 : (mostsV (ls.take i) w t.T).length = i := by simp [mostsV]; omega
   have hpl2 := placesFrom_length (move := c.move) (mostsV (ls.take i) w t.T) 0
   rw [hml2, Int.zero_add] at hpt
   rw [hml2] at hpl2
   have hstep : ∀ {s : St} (b2 : Bool), s = ⟨mkT 51 [(3, .p (.int .i64 n)), (4, .p (.int .i64 w)), (5, .addr 0 5 0 0), (7, .addr 1 4 0 0), (11, .ow 2 b2 ((places c.move (mostsV (ls.take (i + 1)) w t.T)).map eQ)), (15, .p (sLL nl ls)), (16, .p (.int .i64 (ls.map eC).length)), (17, .p (.int .i64 (IntKind.wrap .i64 ((i : Int) + 1))))], [some (bCf c true), some (bTk t), none]⟩ → N s := fun b2 e => by
    rw [next1 (n := ls.length) hil (by omega)] at e
    exact hN (m - 1) _ (by omega) ⟨i + 1, b2, by omega, e⟩
   clear hN hft h73 h76 hLX hbd hbl hpl0 hR
   unfold places at *
   generalize placesFrom c.move 0 (mostsV (ls.take (i + 1)) w t.T) = L2 at *
   generalize placesFrom c.move 0 (mostsV (ls.take i) w t.T) = L1 at *
   generalize ls[i] = p at *
   generalize mostV p.2 w t.T w = v at *
   by_cases hv : c.move < v
   ·have d1 : decide (v > c.move) = true := decide_eq_true hv
    rw [if_pos hv] at hpt
    (repeat' ((conv => whnf); first | exact trivial | with_reducible refine zX ?_ | refine ⟨rfl, ?_⟩ | refine ⟨_, rfl, ?_⟩ | with_reducible refine zP ?_ | with_reducible refine zL ?_ | refine ⟨fun _ => ?_, fun _ => ?_⟩ | refine zn ?_ | refine zb rfl ?_ | refine zX ?_ | refine zo rfl ?_ | refine zs ?_ | intro _)); all_goals (try (conv => whnf))
    all_goals (refine hstep (b && false) ?_; rw [hpt, List.map_append]; rfl)
   ·have d1 : decide (v > c.move) = false := decide_eq_false hv
    rw [if_neg hv, List.append_nil] at hpt
    (repeat' ((conv => whnf); first | exact trivial | with_reducible refine zX ?_ | refine ⟨rfl, ?_⟩ | refine ⟨_, rfl, ?_⟩ | with_reducible refine zP ?_ | with_reducible refine zL ?_ | refine ⟨fun _ => ?_, fun _ => ?_⟩ | refine zn ?_ | refine zb rfl ?_ | refine zX ?_ | refine zo rfl ?_ | refine zs ?_ | intro _)); all_goals (try (conv => whnf))
    all_goals (refine hstep b ?_; rw [hpt]; rfl)
  ·have hb := lt_f (i := i) (n := (ls.map eC).length) (by simpa using hil)
   rw [List.take_of_length_le (by omega)]
   clear hN hft
   generalize places c.move (mostsV ls w t.T) = L at *
   by_cases hlt : L.length < n
   ·have d1 : decide (((L.map eQ).length : Int) < (n : Int)) = true := decide_eq_true (by simp; omega)
    rw [if_pos hlt] at hR
    clear h73 h76
    (repeat' ((conv => whnf); first | exact trivial | with_reducible refine zX ?_ | refine ⟨rfl, ?_⟩ | refine ⟨_, rfl, ?_⟩ | with_reducible refine zP ?_ | with_reducible refine zL ?_ | refine ⟨fun _ => ?_, fun _ => ?_⟩ | refine zn ?_ | refine zb rfl ?_ | refine zX ?_ | refine zo rfl ?_ | refine zs ?_ | intro _)); all_goals (try (conv => whnf))
    all_goals exact hR
   ·have d1 : decide (((L.map eQ).length : Int) < (n : Int)) = false := decide_eq_false (by simp; omega)
    rw [if_neg hlt, hbd, if_neg hlt] at hR
    have h76 := h76 (by omega)
    rw [Nat.min_eq_left (by omega)] at h76
    have o1 : L.map eQ ≠ [] := fun e => by have := congrArg List.length e; simp at this; subst this; simp at hlt; omega
    have o2 : scalR (ownRows (L.map eQ)) = true := by rw [ownRows_Q]; exact scalR_Q L
    have o3 : allPR (ownRows (L.map eQ)) = true := by rw [ownRows_Q]; exact allPR_Q L
    have h73' : MCall P 99 2 [.bs 0 2 true 0 (L.map eQ).length, .p (.fn 100 [])] (ownRows (L.map eQ)) ((isort ltX L).map rQ) (.tup []) := by rw [ownRows_Q, List.length_map]; exact h73
    have o4 : (0 : Int) ≤ (n : Int) := by omega
    have o5 : (n : Int) ≤ (((L.map eQ).length : Nat) : Int) := by simp; omega
    have o6 : (n : Int) ≤ ((((isort ltX L).map rQ).length : Nat) : Int) := by simp; omega
    have o7 : allPR (((isort ltX L).map rQ).take (n : Int).toNat) = true := by rw [Int.toNat_natCast, ← List.map_take]; exact allPR_Q _
    have hlen2 : (isort ltC ((isort ltX L).take n)).length = n := by rw [isort_length, List.length_take]; omega
    generalize isort ltC ((isort ltX L).take n) = Q at *
    (repeat' ((conv => whnf); first | exact trivial | with_reducible refine zX ?_ | refine ⟨rfl, ?_⟩ | refine ⟨_, rfl, ?_⟩ | with_reducible refine zP ?_ | with_reducible refine zL ?_ | refine ⟨fun _ => ?_, fun _ => ?_⟩ | refine zn ?_ | refine zb rfl ?_ | refine zX ?_ | refine zo rfl ?_ | refine zs ?_ | intro _)); all_goals (try (conv => whnf))
    refine ⟨_, _, h73', ?_⟩
    (repeat' ((conv => whnf); first | exact trivial | with_reducible refine zX ?_ | refine ⟨rfl, ?_⟩ | refine ⟨_, rfl, ?_⟩ | with_reducible refine zP ?_ | with_reducible refine zL ?_ | refine ⟨fun _ => ?_, fun _ => ?_⟩ | refine zn ?_ | refine zb rfl ?_ | refine zX ?_ | refine zo rfl ?_ | refine zs ?_ | intro _)); all_goals (try (conv => whnf))
    refine ⟨_, _, h76, ?_⟩
    (repeat' ((conv => whnf); first | exact trivial | with_reducible refine zX ?_ | refine ⟨rfl, ?_⟩ | refine ⟨_, rfl, ?_⟩ | with_reducible refine zP ?_ | with_reducible refine zL ?_ | refine ⟨fun _ => ?_, fun _ => ?_⟩ | refine zn ?_ | refine zb rfl ?_ | refine zX ?_ | refine zo rfl ?_ | refine zs ?_ | intro _)); all_goals (try (conv => whnf))
    refine And.intro (show allPR (copiesR (Q.map rQ)) = true by rw [copiesR_Q]; exact allPR_Q Q) ?_
    (repeat' ((conv => whnf); first | exact trivial | with_reducible refine zX ?_ | refine ⟨rfl, ?_⟩ | refine ⟨_, rfl, ?_⟩ | with_reducible refine zP ?_ | with_reducible refine zL ?_ | refine ⟨fun _ => ?_, fun _ => ?_⟩ | refine zn ?_ | refine zb rfl ?_ | refine zX ?_ | refine zo rfl ?_ | refine zs ?_ | intro _)); all_goals (try (conv => whnf))
    all_goals exact frz_ok (frz_bs (k := 2) (size := 2) (n := (n : Int).toNat) (ag := true) (bx := ⟨false, 2, copiesR (Q.map rQ), false⟩) rfl ⟨rfl, .inl rfl, rfl, by rw [copiesR_Q, List.length_map, Int.toNat_natCast]; exact hlen2.symm⟩ (by rw [copiesR_Q]; exact rowsP_Q Q)) hR
theorem pieces54 (c : Cf) (hc : headR c) (t : Tk) (hC : 0 ≤ t.C ∧ t.C ≤ 1000) (w : Int) (hw : 0 ≤ w ∧ w ≤ 1000) (nl : Bool) (L : List Ma.Place) (hL : L.length ≤ 12) (hx : ∀ p, p ∈ L → c.move < p.x ∧ p.x ≤ 1000) :
  PureCall Tryz.prog 53 [eCf c, eT t, .int .i64 w, .sl 2 nl (L.map eQ)] (.tup [.p (.sl 4 (piecesV c.lag w c.move t.C 0 L).1.isEmpty ((piecesV c.lag w c.move t.C 0 L).1.map eP)), .p (.bool (decide ((piecesV c.lag w c.move t.C 0 L).2 = 0) && decide (1 < (piecesV c.lag w c.move t.C 0 L).1.length)))]) := by
 have hm := maxLen_eq
 obtain ⟨⟨c1, c2⟩, ⟨c3, c4⟩, ⟨c5, c6⟩, c7, c8⟩ := hc
 generalize hr : piecesV c.lag w c.move t.C 0 L = r
 have hrow : ∀ (j : Nat) (hj : j < L.length), (L.map eQ)[j]? = some (.agg [.int .i64 L[j].core, .int .i64 L[j].x]) := fun j hj => by simp [hj, eQ]
 refine Fn.run k53 rfl ?_
 generalize Tryz.prog = P
 (repeat' ((conv => whnf); first | exact trivial | with_reducible refine zX ?_ | refine ⟨rfl, ?_⟩ | refine ⟨_, rfl, ?_⟩ | with_reducible refine zP ?_ | with_reducible refine zL ?_ | refine ⟨fun _ => ?_, fun _ => ?_⟩ | refine zn ?_ | refine zb rfl ?_ | refine zX ?_ | refine zo rfl ?_ | refine zs ?_ | intro _)); all_goals (try (conv => whnf))
 rename_i hlen
 refine loop_inv (fun n s => ∃ (i : Nat) (left : Int) (acc : List Pc), n + i = L.length ∧ 0 ≤ left ∧ left ≤ t.C ∧ acc.length = i ∧ acc ++ (piecesV c.lag w c.move left i (L.drop i)).1 = r.1 ∧ (piecesV c.lag w c.move left i (L.drop i)).2 = r.2 ∧
  s = ⟨mkT 65 [(2, .p (.int .i64 w)), (4, .addr 0 5 0 0), (10, .ow 4 acc.isEmpty (acc.map eP)), (11, .p (.int .i64 left)), (18, .p (.sl 2 nl (L.map eQ))), (19, .p (.int .i64 (L.map eQ).length)), (20, .p (.int .i64 i))], [some (bCf c true), some (bTk t), none]⟩) L.length ?_ ?_
 ·conv => whnf
  exact ⟨0, t.C, [], rfl, hC.1, Int.le_refl _, rfl, by rw [← hr]; rfl, by rw [← hr]; rfl, rfl⟩
 ·rintro m st bb N ⟨i, left, acc, hi, hl0, hl1, hacc, hI1, hI2, e⟩ hN
  cases e
  have hemp : (acc.map eP).length = acc.length := by simp
  by_cases hil : i < L.length
  ·have hb := lt_t (n := (L.map eQ).length) (by simpa using hil)
   have hr1 := hrow i hil
   obtain ⟨x1, x2⟩ := hx L[i] (List.getElem_mem hil)
   rw [List.drop_eq_getElem_cons hil] at hI1 hI2
   unfold piecesV at hI1 hI2
   by_cases hz : left = 0
   ·have d1 : (left == 0) = true := by simpa using hz
    rw [if_pos hz] at hI1 hI2
    simp only [List.append_nil] at hI1
    simp only at hI2
    subst hI1
    have d2 : decide (r.2 = 0) = true := decide_eq_true (by omega)
    rw [d2]
    clear hN hrow hx
    (repeat' ((conv => whnf); first | exact trivial | with_reducible refine zX ?_ | refine ⟨rfl, ?_⟩ | refine ⟨_, rfl, ?_⟩ | with_reducible refine zP ?_ | with_reducible refine zL ?_ | refine ⟨fun _ => ?_, fun _ => ?_⟩ | refine zn ?_ | refine zb rfl ?_ | refine zX ?_ | refine zo rfl ?_ | refine zs ?_ | intro _)); all_goals (try (conv => whnf))
    rename_i hh
    have d3 : decide (((r.1.map eP).length : Int) > 1) = decide (1 < r.1.length) := by rw [List.length_map]; exact decide_eq_decide.2 (by omega)
    (repeat' ((conv => whnf); first | exact trivial | with_reducible refine zX ?_ | refine ⟨rfl, ?_⟩ | refine ⟨_, rfl, ?_⟩ | with_reducible refine zP ?_ | with_reducible refine zL ?_ | refine ⟨fun _ => ?_, fun _ => ?_⟩ | refine zn ?_ | refine zb rfl ?_ | refine zX ?_ | refine zo rfl ?_ | refine zs ?_ | intro _)); all_goals (try (conv => whnf))
    all_goals (rw [d3]; rfl)
   ·have d1 : (left == 0) = false := by simpa using hz
    rw [if_neg hz] at hI1 hI2
    simp only at hI1 hI2
    generalize L[i] = p at *
    have hstep : ∀ {s : St} (mv use : Int), mv = (if (i : Int) = 0 then 0 else c.move) → use = min (p.x - mv) left → s = ⟨mkT 65 [(2, .p (.int .i64 w)), (4, .addr 0 5 0 0), (10, .ow 4 (acc.isEmpty && false) (acc.map eP ++ [.agg [.int .i64 p.core, .int .i64 (IntKind.wrap .i64 ((i : Int) * IntKind.wrap .i64 (w + c.lag))), .int .i64 w, .int .i64 (IntKind.wrap .i64 (mv + use))]])), (11, .p (.int .i64 (IntKind.wrap .i64 (left - use)))), (18, .p (.sl 2 nl (L.map eQ))), (19, .p (.int .i64 (L.map eQ).length)), (20, .p (.int .i64 (IntKind.wrap .i64 ((i : Int) + 1))))], [some (bCf c true), some (bTk t), none]⟩ → N s := fun mv use e1 e2 e => by
     have hmv : 0 ≤ mv ∧ mv ≤ c.move := by rw [e1]; split <;> omega
     have hprod : 0 ≤ (i : Int) * (w + c.lag) ∧ (i : Int) * (w + c.lag) ≤ 12 * 1005 := ⟨Int.mul_nonneg (by omega) (by omega), Int.mul_le_mul (by omega) (by omega) (by omega) (by omega)⟩
     rw [next1 (n := L.length) hil (by omega), wrapE (n := w + c.lag) (by omega) (by omega), wrapE (n := (i : Int) * (w + c.lag)) (by omega) (by omega), wrapE (n := mv + use) (by omega) (by omega), wrapE (n := left - use) (by omega) (by omega)] at e
     rw [← e1, ← e2] at hI1 hI2
     refine hN (m - 1) _ (by omega) ⟨i + 1, left - use, acc ++ [⟨p.core, (i : Int) * (w + c.lag), w, mv + use⟩], by omega, by omega, by omega, by simp [hacc], ?_, hI2, ?_⟩
     ·rw [List.append_assoc]; exact hI1
     ·rw [e, Bool.and_false, List.map_append]
      have : (acc ++ [⟨p.core, (i : Int) * (w + c.lag), w, mv + use⟩] : List Pc).isEmpty = false := by simp
      rw [this]; rfl
    clear hN hrow hx
    cases i with
    | zero =>
     have d2 : (((0 : Nat) : Int) == 0) = true := rfl
     have hu : (if left < IntKind.wrap .i64 (p.x - 0) then left else IntKind.wrap .i64 (p.x - 0)) = min (p.x - 0) left := by rw [wrapE (by omega) (by omega)]; omega
     (repeat' ((conv => whnf); first | exact trivial | with_reducible refine zX ?_ | refine ⟨rfl, ?_⟩ | refine ⟨_, rfl, ?_⟩ | with_reducible refine zP ?_ | with_reducible refine zL ?_ | refine ⟨fun _ => ?_, fun _ => ?_⟩ | refine zn ?_ | refine zb rfl ?_ | refine zX ?_ | refine zo rfl ?_ | refine zs ?_ | intro _)); all_goals (try (conv => whnf))
     exact hstep 0 _ rfl hu rfl
    | succ i =>
     have d2 : (((i + 1 : Nat) : Int) == 0) = false := beq_ne (by omega)
     have hu : (if left < IntKind.wrap .i64 (p.x - c.move) then left else IntKind.wrap .i64 (p.x - c.move)) = min (p.x - c.move) left := by rw [wrapE (by omega) (by omega)]; omega
     (repeat' ((conv => whnf); first | exact trivial | with_reducible refine zX ?_ | refine ⟨rfl, ?_⟩ | refine ⟨_, rfl, ?_⟩ | with_reducible refine zP ?_ | with_reducible refine zL ?_ | refine ⟨fun _ => ?_, fun _ => ?_⟩ | refine zn ?_ | refine zb rfl ?_ | refine zX ?_ | refine zo rfl ?_ | refine zs ?_ | intro _)); all_goals (try (conv => whnf))
     exact hstep c.move _ (by rw [if_neg (by omega)]) hu rfl
  ·have hb := lt_f (i := i) (n := (L.map eQ).length) (by simpa using hil)
   rw [List.drop_of_length_le (by omega)] at hI1 hI2
   simp only [piecesV, List.append_nil] at hI1 hI2
   subst hI1
   subst hI2
   clear hN hrow hx
   by_cases hz : r.2 = 0
   ·have d1 : (r.2 == 0) = true := by simpa using hz
    rw [decide_eq_true hz]
    (repeat' ((conv => whnf); first | exact trivial | with_reducible refine zX ?_ | refine ⟨rfl, ?_⟩ | refine ⟨_, rfl, ?_⟩ | with_reducible refine zP ?_ | with_reducible refine zL ?_ | refine ⟨fun _ => ?_, fun _ => ?_⟩ | refine zn ?_ | refine zb rfl ?_ | refine zX ?_ | refine zo rfl ?_ | refine zs ?_ | intro _)); all_goals (try (conv => whnf))
    rename_i hh
    have d3 : decide (((r.1.map eP).length : Int) > 1) = decide (1 < r.1.length) := by rw [List.length_map]; exact decide_eq_decide.2 (by omega)
    (repeat' ((conv => whnf); first | exact trivial | with_reducible refine zX ?_ | refine ⟨rfl, ?_⟩ | refine ⟨_, rfl, ?_⟩ | with_reducible refine zP ?_ | with_reducible refine zL ?_ | refine ⟨fun _ => ?_, fun _ => ?_⟩ | refine zn ?_ | refine zb rfl ?_ | refine zX ?_ | refine zo rfl ?_ | refine zs ?_ | intro _)); all_goals (try (conv => whnf))
    all_goals (rw [d3]; rfl)
   ·have d1 : (r.2 == 0) = false := by simpa using hz
    rw [decide_eq_false hz]
    (repeat' ((conv => whnf); first | exact trivial | with_reducible refine zX ?_ | refine ⟨rfl, ?_⟩ | refine ⟨_, rfl, ?_⟩ | with_reducible refine zP ?_ | with_reducible refine zL ?_ | refine ⟨fun _ => ?_, fun _ => ?_⟩ | refine zn ?_ | refine zb rfl ?_ | refine zX ?_ | refine zo rfl ?_ | refine zs ?_ | intro _)); all_goals (try (conv => whnf))
    all_goals rfl
end Go.Proofs.YtoepoghmeajocaaGreatDoor.Vc
namespace Go.Proofs.YtoepoghmeajocaaGreatDoor.Vc
open Go.RowKit Ma
noncomputable def winP (c : Cf) (t : Tk) (ls : LL) : List Pc := if t.secs = [] then windowV c.lag c.move t.C t.D t.T (ls.map (·.2)) (c.cores.toNat - 1) 2 else []
theorem planR_plain (k : Int) (ps : List Pc) : (planR k ps).plain = true := by unfold planR; split <;> rfl
theorem planR_none {k : Int} {ps : List Pc} (h : ps = []) : resOf [TV.p (.agg [.int .i64 0, .sl 4 true []]), TV.p (.bool false)] = planR k ps := by unfold planR; rw [if_pos h]; rfl
theorem planR_some {k : Int} {ps qs : List Pc} (h : ps = qs) (h1 : 0 < qs.length) : resOf [TV.p (.agg [.int .i64 k, .sl 4 qs.isEmpty (qs.map eP)]), TV.p (.bool true)] = planR k ps := by
 subst h
 unfold planR
 have : ps ≠ [] := fun e => by subst e; simp at h1
 rw [if_neg this, List.isEmpty_eq_false_iff.2 this]; rfl
theorem mosts_eq (ls : LL) (w T : Int) : ((ls.map (·.2)).map fun l => mostV l w T w) = mostsV ls w T := by rw [List.map_map]; rfl
theorem best_x {ls : LL} {w T move : Int} {n : Nat} (hm : 0 ≤ move) (hw : w ≤ 200) : ∀ p, p ∈ bestV (places move (mostsV ls w T)) n → move < p.x ∧ p.x ≤ 1000 := by
 intro p hp
 obtain ⟨h1, h2, h3⟩ := bestV_x hp
 refine ⟨h3, ?_⟩
 unfold mostsV at h2
 rw [List.getElem?_map] at h2
 cases hl : ls[p.core.toNat]? with
 | none => rw [hl] at h2; simp at h2
 | some q =>
  rw [hl] at h2
  simp only [Option.map_some, Option.some.injEq] at h2
  have := (mostV_bound q.2 w T w).2 (by omega)
  omega
theorem best_few {ls : LL} {w T move : Int} {n : Nat} (hf : ls.length ≤ 12) : (bestV (places move (mostsV ls w T)) n).length ≤ 12 := by
 rw [bestV_length]
 have hpl := placesFrom_length (move := move) (mostsV ls w T) 0
 have hml : (mostsV ls w T).length = ls.length := by simp [mostsV]
 unfold places
 split <;> omega
theorem split28 (c : Cf) (hc : c.ok = true) (t : Tk) (ht : t.ok c.res.length = true) (nl : Bool) (ls : LL) (h : LLok ls) (hls : (ls.length : Int) = c.cores) :
  PureCall Tryz.prog 19 [eCf c, sLL nl ls, eT t] (planR 2 (winP c t ls)) := by
 have hm := maxLen_eq
 obtain ⟨hh, hrl⟩ := cf_head hc
 have hth := tk_head ht
 have hsl : t.secs.length ≤ 2 := hth.2.2.2.2
 have h50 := config50 c (by omega)
 have h51 := task51 c t (by omega)
 rw [hc] at h50
 rw [ht] at h51
 obtain ⟨⟨c1, c2⟩, ⟨c3, c4⟩, ⟨c5, c6⟩, c7, c8⟩ := id hh
 obtain ⟨t1, t2, t3, t4, t5⟩ := hth
 have h30 := fun (n : Nat) (hn : n ≤ 12) => size30 c t n ⟨c5, c6⟩ (by omega) (by omega)
 have h55 := fun (n : Nat) (hn : 1 ≤ n) (w : Int) (hw : 0 ≤ w) => best55 c nl ls h (by omega) t n hn w hw
 have h54 := fun (w : Int) (hw : 0 ≤ w ∧ w ≤ 1000) (b : Bool) (L : List Ma.Place) (hL : L.length ≤ 12) hx => pieces54 c hh t (by omega) w hw b L hL hx
 simp only [eCf, eT] at h50 h51 h30 h55 h54
 have g1 : (((ls.map eC).length : Int) != c.cores) = false := by simp [hls]
 have hnone : ∀ {W : List Pc}, winP c t ls = W → W = [] → resOf [TV.p (.agg [.int .i64 0, .sl 4 true []]), TV.p (.bool false)] = planR 2 (winP c t ls) := fun e1 e2 => planR_none (e1.trans e2)
 by_cases hs : t.secs = []
 case neg =>
  have g2 : decide (((t.secs.map eS).length : Int) > 0) = true := decide_eq_true (by have := List.length_pos_iff.2 hs; simp; omega)
  have hW : winP c t ls = [] := by unfold winP; rw [if_neg hs]
  have hN := hnone hW rfl
  generalize planR 2 (winP c t ls) = R at *
  have hR : R.plain = true := by rw [← hN]; rfl
  clear h30 h55 h54
  refine Fn.run k19 hR ?_
  generalize Tryz.prog = P at *
  (repeat' ((conv => whnf); first | exact trivial | with_reducible refine zX ?_ | refine ⟨rfl, ?_⟩ | refine ⟨_, rfl, ?_⟩ | with_reducible refine zP ?_ | with_reducible refine zL ?_ | refine ⟨fun _ => ?_, fun _ => ?_⟩ | refine zn ?_ | refine zb rfl ?_ | refine zX ?_ | refine zo rfl ?_ | refine zs ?_ | intro _)); all_goals (try (conv => whnf))
  all_goals exact hN
 have g2 : decide (((t.secs.map eS).length : Int) > 0) = false := decide_eq_false (by rw [hs]; simp)
 have hW : winP c t ls = windowV c.lag c.move t.C t.D t.T (ls.map (·.2)) (c.cores.toNat - 1) 2 := by unfold winP; rw [if_pos hs]
 have hsome : ∀ {L : List Pc}, winP c t ls = L → 1 < L.length → resOf [TV.p (.agg [.int .i64 2, .sl 4 L.isEmpty (L.map eP)]), TV.p (.bool true)] = planR 2 (winP c t ls) := fun e1 e2 => planR_some e1 (by omega)
 have hR := planR_plain 2 (winP c t ls)
 generalize planR 2 (winP c t ls) = R at *
 generalize winP c t ls = W at *
 refine Fn.run k19 hR ?_
 generalize Tryz.prog = P at *
 (repeat' ((conv => whnf); first | exact trivial | with_reducible refine zX ?_ | refine ⟨rfl, ?_⟩ | refine ⟨_, rfl, ?_⟩ | with_reducible refine zP ?_ | with_reducible refine zL ?_ | refine ⟨fun _ => ?_, fun _ => ?_⟩ | refine zn ?_ | refine zb rfl ?_ | refine zX ?_ | refine zo rfl ?_ | refine zs ?_ | intro _)); all_goals (try (conv => whnf))
 refine loop_inv (fun m s => ∃ i : Nat, m + i = c.cores.toNat + 1 ∧ 2 ≤ i ∧ W = windowV c.lag c.move t.C t.D t.T (ls.map (·.2)) (c.cores.toNat + 1 - i) i ∧
  s = ⟨mkT 64 [(1, .p (sLL nl ls)), (3, .addr 0 5 0 0), (5, .addr 1 4 0 0), (6, .addr 2 2 0 0), (8, .p (.int .i64 i))], [some (bCf c true), some (bTk t), some ⟨true, 2, [[.p (.int .i64 0), .ow 4 true []]], false⟩]⟩) (c.cores.toNat - 1) ?_ ?_
 ·conv => whnf
  exact ⟨2, by omega, Nat.le_refl _, hW, rfl⟩
 ·rintro m st bb N ⟨i, hi, hi2, hI, e⟩ hN
  cases e
  by_cases hil : (i : Int) ≤ c.cores
  ·have hb : decide ((i : Int) ≤ c.cores) = true := decide_eq_true hil
   rw [show c.cores.toNat + 1 - i = (c.cores.toNat - i) + 1 by omega] at hI
   simp only [windowV, mosts_eq] at hI
   have hsz := h30 i (by omega)
   have hbd := @sizeV_bound c.lag t.D i
   generalize sizeV t.D c.lag i = w at *
   by_cases hz : w = 0
   ·have d1 : (w == 0) = true := by simpa using hz
    rw [if_pos hz] at hI
    clear hN h55 h54 h30
    (repeat' ((conv => whnf); first | exact trivial | with_reducible refine zX ?_ | refine ⟨rfl, ?_⟩ | refine ⟨_, rfl, ?_⟩ | with_reducible refine zP ?_ | with_reducible refine zL ?_ | refine ⟨fun _ => ?_, fun _ => ?_⟩ | refine zn ?_ | refine zb rfl ?_ | refine zX ?_ | refine zo rfl ?_ | refine zs ?_ | intro _)); all_goals (try (conv => whnf))
    all_goals exact hnone hI rfl
   ·have d1 : (w == 0) = false := by simpa using hz
    rw [if_neg hz] at hI
    have hbd := hbd hz
    have hw2 : w ≤ 200 := by
     have : 1 * w ≤ (i : Int) * w := Int.mul_le_mul_of_nonneg_right (by omega) (by omega)
     have : 0 ≤ ((i : Int) - 1) * c.lag := Int.mul_nonneg (by omega) c5
     omega
    have hb55 := h55 i (by omega) w (by omega)
    have hx := @best_x ls w t.T c.move i c7 hw2
    have hfw := @best_few ls w t.T c.move i (by omega)
    have hstep : ∀ {s : St}, W = windowV c.lag c.move t.C t.D t.T (ls.map (·.2)) (c.cores.toNat - i) (i + 1) → s = ⟨mkT 64 [(1, .p (sLL nl ls)), (3, .addr 0 5 0 0), (5, .addr 1 4 0 0), (6, .addr 2 2 0 0), (8, .p (.int .i64 (IntKind.wrap .i64 ((i : Int) + 1))))], [some (bCf c true), some (bTk t), some ⟨true, 2, [[.p (.int .i64 0), .ow 4 true []]], false⟩]⟩ → N s := fun k e => by
     rw [next1 (n := i + 1) (by omega) (by omega)] at e
     exact hN (m - 1) _ (by omega) ⟨i + 1, by omega, by omega, by rw [show c.cores.toNat + 1 - (i + 1) = c.cores.toNat - i by omega]; exact k, e⟩
    unfold bestR at hb55
    have hbv : (places c.move (mostsV ls w t.T)).length < i → bestV (places c.move (mostsV ls w t.T)) i = [] := fun hlt => by unfold bestV; rw [if_pos hlt]
    clear hN h55 h30
    by_cases hfew : (places c.move (mostsV ls w t.T)).length < i
    ·rw [if_pos hfew] at hb55
     rw [hbv hfew] at hI
     have hp := h54 w (by omega) true [] (by simp) (fun p hp => by simp at hp)
     rw [if_neg (by simp [piecesV])] at hI
     clear h54 hx hfw hbv
     simp only [piecesV, List.map_nil, List.isEmpty_nil, List.length_nil, Nat.not_lt_zero, decide_false, Bool.and_false] at hp
     (repeat' ((conv => whnf); first | exact trivial | with_reducible refine zX ?_ | refine ⟨rfl, ?_⟩ | refine ⟨_, rfl, ?_⟩ | with_reducible refine zP ?_ | with_reducible refine zL ?_ | refine ⟨fun _ => ?_, fun _ => ?_⟩ | refine zn ?_ | refine zb rfl ?_ | refine zX ?_ | refine zo rfl ?_ | refine zs ?_ | intro _)); all_goals (try (conv => whnf))
     exact hstep hI rfl
    ·rw [if_neg hfew] at hb55
     have hp := h54 w (by omega) false _ hfw hx
     clear h54 hx hfw hbv
     generalize piecesV c.lag w c.move t.C 0 (bestV (places c.move (mostsV ls w t.T)) i) = r at *
     obtain ⟨r1, r2⟩ := r
     simp only at hI hp
     by_cases hok : r2 = 0 ∧ 1 < r1.length
     ·rw [if_pos hok] at hI
      have d2 : (decide (r2 = 0) && decide (1 < r1.length)) = true := by simp [hok]
      rw [d2] at hp
      (repeat' ((conv => whnf); first | exact trivial | with_reducible refine zX ?_ | refine ⟨rfl, ?_⟩ | refine ⟨_, rfl, ?_⟩ | with_reducible refine zP ?_ | with_reducible refine zL ?_ | refine ⟨fun _ => ?_, fun _ => ?_⟩ | refine zn ?_ | refine zb rfl ?_ | refine zX ?_ | refine zo rfl ?_ | refine zs ?_ | intro _)); all_goals (try (conv => whnf))
      all_goals exact hsome hI hok.2
     ·rw [if_neg hok] at hI
      have d2 : (decide (r2 = 0) && decide (1 < r1.length)) = false := by
       rw [Bool.and_eq_false_iff, decide_eq_false_iff_not, decide_eq_false_iff_not]; omega
      rw [d2] at hp
      (repeat' ((conv => whnf); first | exact trivial | with_reducible refine zX ?_ | refine ⟨rfl, ?_⟩ | refine ⟨_, rfl, ?_⟩ | with_reducible refine zP ?_ | with_reducible refine zL ?_ | refine ⟨fun _ => ?_, fun _ => ?_⟩ | refine zn ?_ | refine zb rfl ?_ | refine zX ?_ | refine zo rfl ?_ | refine zs ?_ | intro _)); all_goals (try (conv => whnf))
      exact hstep hI rfl
  ·have hb : decide ((i : Int) ≤ c.cores) = false := decide_eq_false hil
   rw [show c.cores.toNat + 1 - i = 0 by omega] at hI
   clear hN h55 h54 h30
   (repeat' ((conv => whnf); first | exact trivial | with_reducible refine zX ?_ | refine ⟨rfl, ?_⟩ | refine ⟨_, rfl, ?_⟩ | with_reducible refine zP ?_ | with_reducible refine zL ?_ | refine ⟨fun _ => ?_, fun _ => ?_⟩ | refine zn ?_ | refine zb rfl ?_ | refine zX ?_ | refine zo rfl ?_ | refine zs ?_ | intro _)); all_goals (try (conv => whnf))
   all_goals exact hnone hI rfl
end Go.Proofs.YtoepoghmeajocaaGreatDoor.Vc
namespace Go.Proofs.YtoepoghmeajocaaGreatDoor.Vc
open Go.RowKit Ma
end Go.Proofs.YtoepoghmeajocaaGreatDoor.Vc
namespace Go.Proofs.YtoepoghmeajocaaGreatDoor.Vc
open Go.RowKit Ma
noncomputable def zerP (c : Cf) (t : Tk) (ls : LL) : List Pc := if t.secs = [] then zeroV c.lag c.move t.C t.D t.T (ls.map (·.2)) else []
theorem getD_map {ls : LL} {a : Nat} (h : a < ls.length) : (ls.map (·.2))[a]?.getD [] = ls[a].2 := by simp [h]
theorem pair_eq {lag move C D T : Int} {ls : LL} {a b : Nat} (ha : a < ls.length) (hb : b < ls.length) (hab : a ≠ b) : pairV lag move C D T (ls.map (·.2)) a b =
  if 1 ≤ tightV ls[a].2 T (C - 1) ∧ C - tightV ls[a].2 T (C - 1) + move ≤ D - tightV ls[a].2 T (C - 1) - lag ∧ fitsB (ls[b].2 ++ [⟨C - tightV ls[a].2 T (C - 1) + move, D - tightV ls[a].2 T (C - 1) - lag, T⟩]) = true then
   [⟨a, 0, tightV ls[a].2 T (C - 1), tightV ls[a].2 T (C - 1)⟩, ⟨b, tightV ls[a].2 T (C - 1) + lag, D - tightV ls[a].2 T (C - 1) - lag, C - tightV ls[a].2 T (C - 1) + move⟩] else [] := by
 unfold pairV
 rw [if_neg hab, getD_map ha, getD_map hb]
 rfl
theorem pair_same {lag move C D T : Int} {ls : List (List Ld)} {a : Nat} : pairV lag move C D T ls a a = [] := by unfold pairV; rw [if_pos rfl]
structure Small (c : Cf) (t : Tk) : Prop where
 l : 0 ≤ c.lag ∧ c.lag ≤ 5
 m : 0 ≤ c.move ∧ c.move ≤ 5
 C : 1 ≤ t.C ∧ t.C ≤ 200
 D : 1 ≤ t.D ∧ t.D ≤ 200
theorem tight_range {l : List Ld} {T C : Int} (hC : C ≤ 200) : 0 ≤ tightV l T (C - 1) ∧ tightV l T (C - 1) ≤ 200 := by
 obtain ⟨h1, h2⟩ := tightV_bound l T (C - 1)
 by_cases h : tightV l T (C - 1) = 0
 ·omega
 ·have := h2 h; omega
theorem pair59 (c : Cf) (t : Tk) (hs : Small c t) (nl : Bool) (ls : LL) (h : LLok ls) (a b : Nat) (ha : a < ls.length) (hb : b < ls.length) (hab : a ≠ b) :
  PureCall Tryz.prog 55 [eCf c, sLL nl ls, eT t, .int .i64 a, .int .i64 b] (planR 3 (pairV c.lag c.move t.C t.D t.T (ls.map (·.2)) a b)) := by
 have hm := maxLen_eq
 obtain ⟨⟨l1, l2⟩, ⟨m1, m2⟩, ⟨C1, C2⟩, D1, D2⟩ := hs
 obtain ⟨x1, x2⟩ := @tight_range ls[a].2 t.T t.C C2
 have w0 : IntKind.wrap .i64 (t.C - 1) = t.C - 1 := wrapE (by omega) (by omega)
 have h79 := tight79 ls[a].1 ls[a].2 (h.nils _ (List.getElem_mem ha)) (h.len _ (List.getElem_mem ha)) t.T (t.C - 1)
 have h48 := clone48 ls[b].1 ls[b].2 (h.nils _ (List.getElem_mem hb)) (h.len _ (List.getElem_mem hb))
 have hql := h.len _ (List.getElem_mem hb)
 have h47 := fun x : Ld => fits47 false (ls[b].2 ++ [x])
 have hra : (ls.map eC)[a]? = some (sL ls[a].1 ls[a].2) := by simp [ha, eC]
 have hrb : (ls.map eC)[b]? = some (sL ls[b].1 ls[b].2) := by simp [hb, eC]
 rw [pair_eq ha hb hab]
 generalize tightV ls[a].2 t.T (t.C - 1) = x at *
 rw [← w0] at h79
 generalize ls[a] = p at *
 generalize ls[b] = q at *
 have w1 : IntKind.wrap .i64 (IntKind.wrap .i64 (t.C - x) + c.move) = t.C - x + c.move := by rw [wrapE (n := t.C - x) (by omega) (by omega), wrapE (by omega) (by omega)]
 have w2 : IntKind.wrap .i64 (IntKind.wrap .i64 (t.D - x) - c.lag) = t.D - x - c.lag := by rw [wrapE (n := t.D - x) (by omega) (by omega), wrapE (by omega) (by omega)]
 have w3 : IntKind.wrap .i64 (x + c.lag) = x + c.lag := wrapE (by omega) (by omega)
 have h47' : PureCall Tryz.prog 32 [.sl 3 (q.1 && false) (q.2.map eL ++ [.agg [.int .i64 (IntKind.wrap .i64 (IntKind.wrap .i64 (t.C - x) + c.move)), .int .i64 (IntKind.wrap .i64 (IntKind.wrap .i64 (t.D - x) - c.lag)), .int .i64 t.T]])] (.p (.bool (fitsB (q.2 ++ [⟨t.C - x + c.move, t.D - x - c.lag, t.T⟩])))) := by
  have := h47 ⟨t.C - x + c.move, t.D - x - c.lag, t.T⟩
  rw [sL, List.map_append] at this
  rw [Bool.and_false, w1, w2]
  exact this
 clear h47
 have hno : ∀ {W : List Pc}, W = [] → resOf [TV.p (.agg [.int .i64 0, .sl 4 true []]), TV.p (.bool false)] = planR 3 W := fun e => planR_none e
 by_cases k1 : x < 1
 ·have d1 : decide (x < 1) = true := decide_eq_true k1
  rw [if_neg (by omega)]
  have hf := hno (W := []) rfl
  refine Fn.run k55 rfl ?_
  generalize Tryz.prog = P at *
  (repeat' ((conv => whnf); first | exact trivial | with_reducible refine zX ?_ | refine ⟨rfl, ?_⟩ | refine ⟨_, rfl, ?_⟩ | with_reducible refine zP ?_ | with_reducible refine zL ?_ | refine ⟨fun _ => ?_, fun _ => ?_⟩ | refine zn ?_ | refine zb rfl ?_ | refine zX ?_ | refine zo rfl ?_ | refine zs ?_ | intro _)); all_goals (try (conv => whnf))
  all_goals exact hf
 have d1 : decide (x < 1) = false := decide_eq_false k1
 by_cases k2 : t.C - x + c.move > t.D - x - c.lag
 ·have d2 : decide (IntKind.wrap .i64 (IntKind.wrap .i64 (t.C - x) + c.move) > IntKind.wrap .i64 (IntKind.wrap .i64 (t.D - x) - c.lag)) = true := decide_eq_true (by rw [w1, w2]; exact k2)
  rw [if_neg (by omega)]
  have hf := hno (W := []) rfl
  refine Fn.run k55 rfl ?_
  generalize Tryz.prog = P at *
  (repeat' ((conv => whnf); first | exact trivial | with_reducible refine zX ?_ | refine ⟨rfl, ?_⟩ | refine ⟨_, rfl, ?_⟩ | with_reducible refine zP ?_ | with_reducible refine zL ?_ | refine ⟨fun _ => ?_, fun _ => ?_⟩ | refine zn ?_ | refine zb rfl ?_ | refine zX ?_ | refine zo rfl ?_ | refine zs ?_ | intro _)); all_goals (try (conv => whnf))
  all_goals exact hf
 have d2 : decide (IntKind.wrap .i64 (IntKind.wrap .i64 (t.C - x) + c.move) > IntKind.wrap .i64 (IntKind.wrap .i64 (t.D - x) - c.lag)) = false := decide_eq_false (by rw [w1, w2]; exact k2)
 cases k3 : fitsB (q.2 ++ [⟨t.C - x + c.move, t.D - x - c.lag, t.T⟩]) with
 | false =>
  rw [k3] at h47'
  rw [if_neg (by rintro ⟨_, _, e⟩; cases e)]
  have hf := hno (W := []) rfl
  refine Fn.run k55 rfl ?_
  generalize Tryz.prog = P at *
  (repeat' ((conv => whnf); first | exact trivial | with_reducible refine zX ?_ | refine ⟨rfl, ?_⟩ | refine ⟨_, rfl, ?_⟩ | with_reducible refine zP ?_ | with_reducible refine zL ?_ | refine ⟨fun _ => ?_, fun _ => ?_⟩ | refine zn ?_ | refine zb rfl ?_ | refine zX ?_ | refine zo rfl ?_ | refine zs ?_ | intro _)); all_goals (try (conv => whnf))
  all_goals exact hf
 | true =>
  rw [k3] at h47'
  rw [if_pos ⟨by omega, by omega, rfl⟩]
  have hf : resOf [TV.p (.agg [.int .i64 3, .sl 4 false [.agg [.int .i64 a, .int .i64 0, .int .i64 x, .int .i64 x], .agg [.int .i64 b, .int .i64 (IntKind.wrap .i64 (x + c.lag)), .int .i64 (IntKind.wrap .i64 (IntKind.wrap .i64 (t.D - x) - c.lag)), .int .i64 (IntKind.wrap .i64 (IntKind.wrap .i64 (t.C - x) + c.move))]]]), TV.p (.bool true)] =
    planR 3 [⟨a, 0, x, x⟩, ⟨b, x + c.lag, t.D - x - c.lag, t.C - x + c.move⟩] := by rw [w1, w2, w3]; rfl
  refine Fn.run k55 rfl ?_
  generalize Tryz.prog = P at *
  (repeat' ((conv => whnf); first | exact trivial | with_reducible refine zX ?_ | refine ⟨rfl, ?_⟩ | refine ⟨_, rfl, ?_⟩ | with_reducible refine zP ?_ | with_reducible refine zL ?_ | refine ⟨fun _ => ?_, fun _ => ?_⟩ | refine zn ?_ | refine zb rfl ?_ | refine zX ?_ | refine zo rfl ?_ | refine zs ?_ | intro _)); all_goals (try (conv => whnf))
  all_goals exact hf
theorem first_step {f : Nat → List Pc} {n i : Nat} (h : i < n) {R : List Pc} (hR : firstFrom f (n - i) i = R) : (f i = [] → firstFrom f (n - (i + 1)) (i + 1) = R) ∧ (f i ≠ [] → f i = R) := by
 rw [show n - i = (n - (i + 1)) + 1 by omega] at hR
 simp only [firstFrom] at hR
 exact ⟨fun e => by rw [if_pos e] at hR; exact hR, fun e => by rw [if_neg e] at hR; exact hR⟩
theorem first_end {f : Nat → List Pc} {n i : Nat} (h : ¬ i < n) {R : List Pc} (hR : firstFrom f (n - i) i = R) : R = [] := by
 rw [show n - i = 0 by omega] at hR
 exact hR.symm
theorem zero32 (c : Cf) (hc : c.ok = true) (t : Tk) (ht : t.ok c.res.length = true) (nl : Bool) (ls : LL) (h : LLok ls) (hls : (ls.length : Int) = c.cores) :
  PureCall Tryz.prog 20 [eCf c, sLL nl ls, eT t] (planR 3 (zerP c t ls)) := by
 have hm := maxLen_eq
 obtain ⟨hh, hrl⟩ := cf_head hc
 have hth := tk_head ht
 have hsl : t.secs.length ≤ 2 := hth.2.2.2.2
 have h50 := config50 c (by omega)
 have h51 := task51 c t (by omega)
 rw [hc] at h50
 rw [ht] at h51
 obtain ⟨⟨c1, c2⟩, ⟨c3, c4⟩, ⟨c5, c6⟩, c7, c8⟩ := id hh
 obtain ⟨t1, t2, t3, t4, t5⟩ := hth
 have h59 := fun (a b : Nat) ha hb hab => pair59 c t ⟨⟨c5, c6⟩, ⟨c7, c8⟩, by omega, by omega⟩ nl ls h a b ha hb hab
 simp only [eCf, eT] at h50 h51 h59
 have g1 : (((ls.map eC).length : Int) != c.cores) = false := by simp [hls]
 by_cases hs : t.secs = []
 case neg =>
  have g2 : decide (((t.secs.map eS).length : Int) > 0) = true := decide_eq_true (by have := List.length_pos_iff.2 hs; simp; omega)
  have hW : zerP c t ls = [] := by unfold zerP; rw [if_neg hs]
  have hN := planR_none (k := 3) hW
  generalize planR 3 (zerP c t ls) = R at *
  have hR : R.plain = true := by rw [← hN]; rfl
  clear h59
  refine Fn.run k20 hR ?_
  generalize Tryz.prog = P at *
  (repeat' ((conv => whnf); first | exact trivial | with_reducible refine zX ?_ | refine ⟨rfl, ?_⟩ | refine ⟨_, rfl, ?_⟩ | with_reducible refine zP ?_ | with_reducible refine zL ?_ | refine ⟨fun _ => ?_, fun _ => ?_⟩ | refine zn ?_ | refine zb rfl ?_ | refine zX ?_ | refine zo rfl ?_ | refine zs ?_ | intro _)); all_goals (try (conv => whnf))
  all_goals exact hN
 have g2 : decide (((t.secs.map eS).length : Int) > 0) = false := decide_eq_false (by rw [hs]; simp)
 have hW : zerP c t ls = zeroV c.lag c.move t.C t.D t.T (ls.map (·.2)) := by unfold zerP; rw [if_pos hs]
 unfold zeroV at hW
 rw [List.length_map] at hW
 have hnone := fun e => planR_none (k := 3) (ps := zerP c t ls) e
 have hsome := fun (L : List Pc) (e : zerP c t ls = L) (e2 : L ≠ []) => planR_some (k := 3) e (List.length_pos_iff.2 e2)
 have hR := planR_plain 3 (zerP c t ls)
 have hf0 : ∀ L : List Pc, L ≠ [] → L.isEmpty = false := fun L e => List.isEmpty_eq_false_iff.2 e
 generalize planR 3 (zerP c t ls) = R at *
 generalize zerP c t ls = W at *
 have hsame : ∀ b, pairV c.lag c.move t.C t.D t.T (ls.map (·.2)) b b = [] := fun b => pair_same
 generalize pairV c.lag c.move t.C t.D t.T (ls.map (·.2)) = f at *
 refine Fn.run k20 hR ?_
 generalize Tryz.prog = P at *
 (repeat' ((conv => whnf); first | exact trivial | with_reducible refine zX ?_ | refine ⟨rfl, ?_⟩ | refine ⟨_, rfl, ?_⟩ | with_reducible refine zP ?_ | with_reducible refine zL ?_ | refine ⟨fun _ => ?_, fun _ => ?_⟩ | refine zn ?_ | refine zb rfl ?_ | refine zX ?_ | refine zo rfl ?_ | refine zs ?_ | intro _)); all_goals (try (conv => whnf))
 rename_i hlen
 refine loop_inv (fun m s => ∃ a : Nat, m + a = ls.length ∧ firstFrom (fun a => firstFrom (f a) ls.length 0) (ls.length - a) a = W ∧
  s = ⟨mkT 62 [(1, .p (sLL nl ls)), (3, .addr 0 5 0 0), (5, .addr 1 4 0 0), (6, .addr 2 2 0 0), (36, .p (.int .i64 (ls.map eC).length)), (37, .p (.int .i64 a))], [some (bCf c true), some (bTk t), some ⟨true, 2, [[.p (.int .i64 0), .ow 4 true []]], false⟩, none]⟩) ls.length ?_ ?_
 ·conv => whnf
  exact ⟨0, rfl, hW.symm, rfl⟩
 ·rintro m st bb N ⟨a, hi, hI, e⟩ hN
  cases e
  by_cases hal : a < ls.length
  ·have hb := lt_t (n := (ls.map eC).length) (i := a) (by simpa using hal)
   have hst := first_step hal hI
   (repeat' ((conv => whnf); first | exact trivial | with_reducible refine zX ?_ | refine ⟨rfl, ?_⟩ | refine ⟨_, rfl, ?_⟩ | with_reducible refine zP ?_ | with_reducible refine zL ?_ | refine ⟨fun _ => ?_, fun _ => ?_⟩ | refine zn ?_ | refine zb rfl ?_ | refine zX ?_ | refine zo rfl ?_ | refine zs ?_ | intro _)); all_goals (try (conv => whnf))
   refine loop_inv (fun m s => ∃ b : Nat, m + b = ls.length ∧ firstFrom (f a) (ls.length - b) b = firstFrom (f a) ls.length 0 ∧
    s = ⟨mkT 62 [(1, .p (sLL nl ls)), (3, .addr 0 5 0 0), (5, .addr 1 4 0 0), (6, .addr 2 2 0 0), (8, .p (.int .i64 a)), (36, .p (.int .i64 (ls.map eC).length)), (37, .p (.int .i64 a)), (41, .p (.int .i64 (ls.map eC).length)), (42, .p (.int .i64 b))], [some (bCf c true), some (bTk t), some ⟨true, 2, [[.p (.int .i64 0), .ow 4 true []]], false⟩, none]⟩) ls.length ?_ ?_
   ·conv => whnf
    exact ⟨0, rfl, rfl, rfl⟩
   ·rintro m2 st2 bb2 N2 ⟨b, hi2, hI2, e⟩ hN2
    cases e
    by_cases hbl : b < ls.length
    ·have hb2 := lt_t (n := (ls.map eC).length) (i := b) (by simpa using hbl)
     have hst2 := first_step hbl hI2
     have hstep : ∀ {s : St}, f a b = [] → s = ⟨mkT 62 [(1, .p (sLL nl ls)), (3, .addr 0 5 0 0), (5, .addr 1 4 0 0), (6, .addr 2 2 0 0), (8, .p (.int .i64 a)), (36, .p (.int .i64 (ls.map eC).length)), (37, .p (.int .i64 a)), (41, .p (.int .i64 (ls.map eC).length)), (42, .p (.int .i64 (IntKind.wrap .i64 ((b : Int) + 1))))], [some (bCf c true), some (bTk t), some ⟨true, 2, [[.p (.int .i64 0), .ow 4 true []]], false⟩, none]⟩ → N2 s := fun k e => by
      rw [next1 (n := ls.length) hbl (by omega)] at e
      exact hN2 (m2 - 1) _ (by omega) ⟨b + 1, by omega, hst2.1 k, e⟩
     by_cases hab : a = b
     ·have d1 : ((a : Int) == (b : Int)) = true := by simp [hab]
      have hfe : f a b = [] := by rw [hab]; exact hsame b
      clear hN hN2 h59
      (repeat' ((conv => whnf); first | exact trivial | with_reducible refine zX ?_ | refine ⟨rfl, ?_⟩ | refine ⟨_, rfl, ?_⟩ | with_reducible refine zP ?_ | with_reducible refine zL ?_ | refine ⟨fun _ => ?_, fun _ => ?_⟩ | refine zn ?_ | refine zb rfl ?_ | refine zX ?_ | refine zo rfl ?_ | refine zs ?_ | intro _)); all_goals (try (conv => whnf))
      exact hstep hfe rfl
     ·have d1 : ((a : Int) == (b : Int)) = false := by simp; omega
      have hp := h59 a b hal hbl hab
      generalize hL : f a b = L at *
      unfold planR at hp
      clear hN hN2 h59
      by_cases hLe : L = []
      ·rw [if_pos hLe] at hp
       simp only [ePl] at hp
       (repeat' ((conv => whnf); first | exact trivial | with_reducible refine zX ?_ | refine ⟨rfl, ?_⟩ | refine ⟨_, rfl, ?_⟩ | with_reducible refine zP ?_ | with_reducible refine zL ?_ | refine ⟨fun _ => ?_, fun _ => ?_⟩ | refine zn ?_ | refine zb rfl ?_ | refine zX ?_ | refine zo rfl ?_ | refine zs ?_ | intro _)); all_goals (try (conv => whnf))
       exact hstep hLe rfl
      ·rw [if_neg hLe] at hp
       simp only [ePl] at hp
       have hfa := hst2.2 hLe
       have hWL : W = L := by
        have := hst.2 (by rw [← hfa]; exact hLe)
        rw [← this, ← hfa]
       have hfin := hsome L hWL hLe
       rw [hf0 L hLe] at hfin
       (repeat' ((conv => whnf); first | exact trivial | with_reducible refine zX ?_ | refine ⟨rfl, ?_⟩ | refine ⟨_, rfl, ?_⟩ | with_reducible refine zP ?_ | with_reducible refine zL ?_ | refine ⟨fun _ => ?_, fun _ => ?_⟩ | refine zn ?_ | refine zb rfl ?_ | refine zX ?_ | refine zo rfl ?_ | refine zs ?_ | intro _)); all_goals (try (conv => whnf))
       all_goals exact hfin
    ·have hb2 := lt_f (n := (ls.map eC).length) (i := b) (by simpa using hbl)
     have hfa := first_end hbl hI2
     clear hN2 h59
     (repeat' ((conv => whnf); first | exact trivial | with_reducible refine zX ?_ | refine ⟨rfl, ?_⟩ | refine ⟨_, rfl, ?_⟩ | with_reducible refine zP ?_ | with_reducible refine zL ?_ | refine ⟨fun _ => ?_, fun _ => ?_⟩ | refine zn ?_ | refine zb rfl ?_ | refine zX ?_ | refine zo rfl ?_ | refine zs ?_ | intro _)); all_goals (try (conv => whnf))
     rw [next1 (n := ls.length) hal (by omega)]
     exact hN (m - 1) _ (by omega) ⟨a + 1, by omega, hst.1 hfa, rfl⟩
  ·have hb := lt_f (n := (ls.map eC).length) (i := a) (by simpa using hal)
   have hWe := first_end hal hI
   clear hN h59
   (repeat' ((conv => whnf); first | exact trivial | with_reducible refine zX ?_ | refine ⟨rfl, ?_⟩ | refine ⟨_, rfl, ?_⟩ | with_reducible refine zP ?_ | with_reducible refine zL ?_ | refine ⟨fun _ => ?_, fun _ => ?_⟩ | refine zn ?_ | refine zb rfl ?_ | refine zX ?_ | refine zo rfl ?_ | refine zs ?_ | intro _)); all_goals (try (conv => whnf))
   all_goals exact hnone hWe
end Go.Proofs.YtoepoghmeajocaaGreatDoor.Vc
namespace Go.Proofs.YtoepoghmeajocaaGreatDoor.Vc
open Go.RowKit Ma
def Tk.cut (t : Tk) : Tk := ⟨t.C, t.D, t.T, (t.secs.take 4).isEmpty, t.secs.take 4⟩
theorem task43 (c : Tk) : PureCall Tryz.prog 30 [eT c] (.p (eT c.cut)) := by
 have hm := maxLen_eq
 obtain ⟨f1, f2, f3⟩ := mn_facts 4 (c.secs.map eS)
 have hlen : ((c.secs.map eS).take 4).length ≤ 4 := by simp; omega
 have hA1 : (([] : List PV).length + ((c.secs.map eS).take (if ((4 : Nat) : Int) < ((c.secs.map eS).length : Int) then ((4 : Nat) : Int) else ((c.secs.map eS).length : Int)).toNat).length) * 24 ≤ 140737488355328 := by rw [f3]; simp only [List.length_nil]; omega
 have hA2 : ([] : List PV).length + ((c.secs.map eS).take (if ((4 : Nat) : Int) < ((c.secs.map eS).length : Int) then ((4 : Nat) : Int) else ((c.secs.map eS).length : Int)).toNat).length ≤ maxLen := by rw [f3]; simp only [List.length_nil]; omega
 refine Fn.run k30 rfl ?_
 generalize Tryz.prog = P at *
 (repeat' ((conv => whnf); first | exact trivial | with_reducible refine zX ?_ | refine ⟨rfl, ?_⟩ | refine ⟨_, rfl, ?_⟩ | with_reducible refine zP ?_ | with_reducible refine zL ?_ | refine ⟨fun _ => ?_, fun _ => ?_⟩ | refine zn ?_ | refine zb rfl ?_ | refine zX ?_ | refine zo rfl ?_ | refine zs ?_ | intro _)); all_goals (try (conv => whnf))
 rw [mn_take 4 4 rfl, ← List.map_take, isEmpty_map]
 rfl
theorem one21 (c : Cf) (t : Tk) (hl : c.res.length ≤ 1000) : PureCall Tryz.prog 18 [eCf c, eT t] (.tup [.p (eT t.cut), .p (.bool (t.cut.ok c.res.length))]) := by
 have h1 := task43 t
 have h2 := task44 c t.cut (by simp [Tk.cut]; omega) hl
 generalize t.cut = d at *
 generalize d.ok c.res.length = y at *
 simp only [eCf, eT] at *
 refine Fn.run k18 rfl ?_
 generalize Tryz.prog = P at *
 (repeat' ((conv => whnf); first | exact trivial | with_reducible refine zX ?_ | refine ⟨rfl, ?_⟩ | refine ⟨_, rfl, ?_⟩ | with_reducible refine zP ?_ | with_reducible refine zL ?_ | refine ⟨fun _ => ?_, fun _ => ?_⟩ | refine zn ?_ | refine zb rfl ?_ | refine zX ?_ | refine zo rfl ?_ | refine zs ?_ | intro _)); all_goals (try (conv => whnf))
 all_goals rfl
end Go.Proofs.YtoepoghmeajocaaGreatDoor.Vc
namespace Go.Proofs.YtoepoghmeajocaaGreatDoor.Vc
open Go.RowKit Ma
instance : No ((true == true) = false) := ⟨by decide⟩
instance : No ((false == false) = false) := ⟨by decide⟩
instance : No ((true == false) = true) := ⟨by decide⟩
instance : No ((false == true) = true) := ⟨by decide⟩
instance : No ((true == true) = !true) := ⟨by decide⟩
instance : No ((false == false) = !true) := ⟨by decide⟩
instance : No ((true == false) = !false) := ⟨by decide⟩
instance : No ((false == true) = !false) := ⟨by decide⟩
structure Kept (c : Cf) (nl : Bool) (ls : LL) (d : Cf) (L : LL) : Prop where
 ok : d.ok = true
 cf : PureCall Tryz.prog 16 [eCf c] (.p (eCf d))
 co : PureCall Tryz.prog 17 [eCf d, sLL nl ls] (.p (sLL false L))
 ll : LLok L
 len : (L.length : Int) = d.cores
 few : L.length ≤ 6
 each : ∀ p, p ∈ L → fitsB p.2 = true ∧ p.2.length ≤ 10 ∧ p.1 = p.2.isEmpty
theorem kept (c : Cf) (nl : Bool) (ls : LL) : ∃ d L, Kept c nl ls d L := by
 have hok := cfV_ok c
 obtain ⟨⟨⟨q1, q2⟩, _⟩, _⟩ := ok_head hok
 obtain ⟨n, hn⟩ : ∃ n : Nat, (cfV c).cores = n := ⟨(cfV c).cores.toNat, by omega⟩
 have hlen := fun y hy => coresV_len (n := n) (ls := ls) (y := y) hy
 have hfit := fun y hy => coresV_fits (n := n) (ls := ls) (y := y) hy
 have hL := coresV_length n ls
 refine ⟨cfV c, (coresV n ls).map eLd, hok, config19 c, cores20 (cfV c) n hn (by omega) nl ls, LLok_of hlen (by omega), by simp; omega, by simp; omega, fun p hp => ?_⟩
 obtain ⟨y, hy, rfl⟩ := List.mem_map.1 hp
 exact ⟨hfit y hy, hlen y hy, rfl⟩
theorem winP_spec {d : Cf} {t : Tk} {L : LL} {n : Int} (hd : d.ok = true) (ht : t.ok n = true) (hw : winP d t L ≠ []) : t.secs = [] ∧ ∃ w, WinOk d.lag d.move t.C t.D t.T (L.map (·.2)) (winP d t L) w := by
 have hl := lim_of hd ht
 unfold winP at hw ⊢
 by_cases hs : t.secs = []
 ·rw [if_pos hs] at hw ⊢
  exact ⟨hs, windowV_spec hl.l1 hl.m1 hl.C1 _ _ hw⟩
 ·rw [if_neg hs] at hw; exact absurd rfl hw
theorem winP_len {d : Cf} {t : Tk} {L : LL} {n : Int} (hd : d.ok = true) (ht : t.ok n = true) (hf : L.length ≤ 6) : (winP d t L).length ≤ 6 := by
 by_cases hw : winP d t L = []
 ·rw [hw]; simp
 ·obtain ⟨_, w, h⟩ := winP_spec hd ht hw
  have := h.le
  simp at this; omega
theorem zerP_spec {d : Cf} {t : Tk} {L : LL} (hw : zerP d t L ≠ []) : t.secs = [] ∧ ZeroOk d.lag d.move t.C t.D t.T (L.map (·.2)) (zerP d t L) := by
 unfold zerP at hw ⊢
 by_cases hs : t.secs = []
 ·rw [if_pos hs] at hw ⊢
  exact ⟨hs, zeroV_spec hw⟩
 ·rw [if_neg hs] at hw; exact absurd rfl hw
theorem cut_len (t : Tk) : t.cut.secs.length ≤ 4 := by simp [Tk.cut]; omega
end Go.Proofs.YtoepoghmeajocaaGreatDoor.Vc
