/- Part of a proof over a Go program: Cn. No condition. -/
import Derived.Test.YtkjghcbnmipgfaaGreatDoorA29
import Derived.Test.YtkjghcbnmipgfaaGreatDoorA13
set_option linter.unusedSectionVars false
set_option linter.unusedSimpArgs false
set_option linter.unusedVariables false
set_option maxHeartbeats 4000000
set_option maxRecDepth 100000
namespace Go.Proofs.YtkjghcbnmipgfaaGreatDoor.Vc
open Go.RowKit Ma
theorem tk_head {t : Tk} {n : Int} (h : t.ok n = true) : headT t := by
  unfold Tk.ok at h
  simp only [Bool.and_eq_true, decide_eq_true_eq] at h
  exact h.1
theorem cf_head {c : Cf} (h : c.ok = true) : headR c ∧ c.res.length ≤ 6 := by
  unfold Cf.ok at h
  simp only [Bool.and_eq_true, decide_eq_true_eq] at h
  exact ⟨h.1, h.2.1⟩
theorem lim_of {c : Cf} {t : Tk} {n : Int} (hc : c.ok = true) (ht : t.ok n = true) : Lim c.cores c.lag c.move t.C t.D t.T := by
  obtain ⟨⟨⟨a1, a2⟩, _, ⟨a3, a4⟩, a5, a6⟩, _⟩ := cf_head hc
  obtain ⟨b1, b2, b3, b4, _⟩ := tk_head ht
  exact ⟨a1, a2, a3, a4, a5, a6, b1, b2, b3, b4⟩
theorem two_of {α : Type} {l : List α} (h : l.length = 2) : ∃ a b, l = [a, b] := by
  match l, h with
  | [a, b], _ => exact ⟨a, b, rfl⟩
theorem beq_ne {a b : Int} (h : a ≠ b) : (a == b) = false := by simpa using h
theorem may27 (c : Cf) (hc : c.ok = true) (t : Tk) (ht : t.ok c.res.length = true) (k : Int) (nl : Bool) (ps : List Pc) (hl1 : ps.length ≤ 1000) :
    PureCall Tryz.prog 27 [eCf c, eT t, ePl k nl ps] (.p (.bool (planB c.cores c.lag c.move t.C t.D t.secs.length k ps))) := by
  have hm := maxLen_eq
  obtain ⟨hh, hrl⟩ := cf_head hc
  have hth := tk_head ht
  have hsl : t.secs.length ≤ 2 := hth.2.2.2.2
  have h50 := config50 c (by omega)
  have h51 := task51 c t (by omega)
  have h52 := apart52 c k nl ps hl1
  have h53 := fun hok => split53 c hh t ⟨hth.1, by have := hth.2; omega⟩ k nl ps hok hl1
  rw [hc] at h50
  rw [ht] at h51
  simp only [eCf, eT, ePl] at h50 h51 h52 h53
  cases ha : apartB c.cores ps with
  | false =>
    rw [ha] at h52
    rw [may_apart ha]
    clear h53
    refine Fn.run k27 rfl ?_
    generalize Tryz.prog = P at *
    (repeat' ((conv => whnf); first | exact trivial | with_reducible refine zX ?_ | refine ⟨rfl, ?_⟩ | refine ⟨_, rfl, ?_⟩ | with_reducible refine zP ?_ | with_reducible refine zL ?_ | refine ⟨fun _ => ?_, fun _ => ?_⟩ | refine zn ?_ | refine zb rfl ?_ | refine zX ?_ | refine zo rfl ?_ | refine zs ?_ | intro _)); all_goals (try (conv => whnf))
    all_goals exact bool_end rfl
  | true =>
    rw [ha] at h52
    have h53 := h53 (apartB_iff.1 ha).1
    by_cases k1 : k = 1
    · subst k1
      have z1 : ((1 : Int) == 1) = true := rfl
      clear h53
      by_cases hn : ps.length = 1
      · obtain ⟨p, rfl⟩ := List.length_eq_one_iff.1 hn
        have hp : planB c.cores c.lag c.move t.C t.D t.secs.length 1 [p] = (p.off == 0 && (p.len == t.D && p.c == t.C)) := by
          rw [Bool.eq_iff_iff, may_whole ha]; simp
        rw [hp]
        have b1 : ((([p].map eP).length : Int) == 1) = true := rfl
        refine Fn.run k27 rfl ?_
        generalize Tryz.prog = P at *
        (repeat' ((conv => whnf); first | exact trivial | with_reducible refine zX ?_ | refine ⟨rfl, ?_⟩ | refine ⟨_, rfl, ?_⟩ | with_reducible refine zP ?_ | with_reducible refine zL ?_ | refine ⟨fun _ => ?_, fun _ => ?_⟩ | refine zn ?_ | refine zb rfl ?_ | refine zX ?_ | refine zo rfl ?_ | refine zs ?_ | intro _)); all_goals (try (conv => whnf))
        all_goals (refine bool_end ?_; simp_all)
      · have b1 : (((ps.map eP).length : Int) == 1) = false := beq_ne (by simp; omega)
        have hp : planB c.cores c.lag c.move t.C t.D t.secs.length 1 ps = false := Bool.eq_false_iff.2 fun e => by
          obtain ⟨p, rfl, _⟩ := (may_whole ha).1 e; exact hn rfl
        rw [hp]
        refine Fn.run k27 rfl ?_
        generalize Tryz.prog = P at *
        (repeat' ((conv => whnf); first | exact trivial | with_reducible refine zX ?_ | refine ⟨rfl, ?_⟩ | refine ⟨_, rfl, ?_⟩ | with_reducible refine zP ?_ | with_reducible refine zL ?_ | refine ⟨fun _ => ?_, fun _ => ?_⟩ | refine zn ?_ | refine zb rfl ?_ | refine zX ?_ | refine zo rfl ?_ | refine zs ?_ | intro _)); all_goals (try (conv => whnf))
        all_goals exact bool_end rfl
    · by_cases k2 : k = 2
      · subst k2
        have z1 : ((2 : Int) == 1) = false := rfl
        have z2 : ((2 : Int) == 2) = true := rfl
        rw [may_window ha]
        refine Fn.run k27 rfl ?_
        generalize Tryz.prog = P at *
        (repeat' ((conv => whnf); first | exact trivial | with_reducible refine zX ?_ | refine ⟨rfl, ?_⟩ | refine ⟨_, rfl, ?_⟩ | with_reducible refine zP ?_ | with_reducible refine zL ?_ | refine ⟨fun _ => ?_, fun _ => ?_⟩ | refine zn ?_ | refine zb rfl ?_ | refine zX ?_ | refine zo rfl ?_ | refine zs ?_ | intro _)); all_goals (try (conv => whnf))
        all_goals exact bool_end rfl
      · by_cases k3 : k = 3
        · subst k3
          have z1 : ((3 : Int) == 1) = false := rfl
          have z2 : ((3 : Int) == 2) = false := rfl
          have z3 : ((3 : Int) == 3) = true := rfl
          cases hs : splitB c.lag c.move t.C t.D t.secs.length ps with
          | false =>
            rw [hs] at h53
            have hp : planB c.cores c.lag c.move t.C t.D t.secs.length 3 ps = false := Bool.eq_false_iff.2 fun e => by
              have := ((may_zero ha).1 e).1; rw [hs] at this; cases this
            rw [hp]
            refine Fn.run k27 rfl ?_
            generalize Tryz.prog = P at *
            (repeat' ((conv => whnf); first | exact trivial | with_reducible refine zX ?_ | refine ⟨rfl, ?_⟩ | refine ⟨_, rfl, ?_⟩ | with_reducible refine zP ?_ | with_reducible refine zL ?_ | refine ⟨fun _ => ?_, fun _ => ?_⟩ | refine zn ?_ | refine zb rfl ?_ | refine zX ?_ | refine zo rfl ?_ | refine zs ?_ | intro _)); all_goals (try (conv => whnf))
            all_goals exact bool_end rfl
          | true =>
            rw [hs] at h53
            by_cases hn : ps.length = 2
            · obtain ⟨p, q, rfl⟩ := two_of hn
              have hp : planB c.cores c.lag c.move t.C t.D t.secs.length 3 [p, q] = (p.len == p.c) := by
                rw [Bool.eq_iff_iff, may_zero ha, hs]; simp
              rw [hp]
              have b1 : ((([p, q].map eP).length : Int) == 2) = true := rfl
              refine Fn.run k27 rfl ?_
              generalize Tryz.prog = P at *
              (repeat' ((conv => whnf); first | exact trivial | with_reducible refine zX ?_ | refine ⟨rfl, ?_⟩ | refine ⟨_, rfl, ?_⟩ | with_reducible refine zP ?_ | with_reducible refine zL ?_ | refine ⟨fun _ => ?_, fun _ => ?_⟩ | refine zn ?_ | refine zb rfl ?_ | refine zX ?_ | refine zo rfl ?_ | refine zs ?_ | intro _)); all_goals (try (conv => whnf))
              all_goals exact bool_end rfl
            · have b1 : (((ps.map eP).length : Int) == 2) = false := beq_ne (by simp; omega)
              have hp : planB c.cores c.lag c.move t.C t.D t.secs.length 3 ps = false := Bool.eq_false_iff.2 fun e => by
                obtain ⟨p, q, rfl, _⟩ := ((may_zero ha).1 e).2; exact hn rfl
              rw [hp]
              refine Fn.run k27 rfl ?_
              generalize Tryz.prog = P at *
              (repeat' ((conv => whnf); first | exact trivial | with_reducible refine zX ?_ | refine ⟨rfl, ?_⟩ | refine ⟨_, rfl, ?_⟩ | with_reducible refine zP ?_ | with_reducible refine zL ?_ | refine ⟨fun _ => ?_, fun _ => ?_⟩ | refine zn ?_ | refine zb rfl ?_ | refine zX ?_ | refine zo rfl ?_ | refine zs ?_ | intro _)); all_goals (try (conv => whnf))
              all_goals exact bool_end rfl
        · rw [may_other k1 k2 k3]
          have b1 := beq_ne k1
          have b2 := beq_ne k2
          have b3 := beq_ne k3
          clear h53
          refine Fn.run k27 rfl ?_
          generalize Tryz.prog = P at *
          (repeat' ((conv => whnf); first | exact trivial | with_reducible refine zX ?_ | refine ⟨rfl, ?_⟩ | refine ⟨_, rfl, ?_⟩ | with_reducible refine zP ?_ | with_reducible refine zL ?_ | refine ⟨fun _ => ?_, fun _ => ?_⟩ | refine zn ?_ | refine zb rfl ?_ | refine zX ?_ | refine zo rfl ?_ | refine zs ?_ | intro _)); all_goals (try (conv => whnf))
          all_goals exact bool_end rfl
/-- What is left to ask behind the loop. -/
theorem plan_end {cores lag move C D : Int} {nsec : Nat} {kind : Int} {ps : List Pc} (h : Pre cores lag move ps) (h1 : ps ≠ []) (h2 : sumC ps = C + (ps.length - 1 : Int) * move) (h3 : lastEnd ps ≤ D) :
    planB cores lag move C D nsec kind ps = true ↔ Ma.kindOk D nsec kind ps := by
  rw [planB_iff, plan_pre]
  exact ⟨fun h => h.2.2.2.2, fun hk => ⟨h, h1, h2, h3, hk⟩⟩
theorem plan_no {cores lag move C D : Int} {nsec : Nat} {kind : Int} {ps : List Pc} (h : ¬ (Pre cores lag move ps ∧ ps ≠ [] ∧ sumC ps = C + (ps.length - 1 : Int) * move ∧ lastEnd ps ≤ D)) : planB cores lag move C D nsec kind ps = false :=
  Bool.eq_false_iff.2 fun e => by
    rw [planB_iff, plan_pre] at e
    exact h ⟨e.1, e.2.1, e.2.2.1, e.2.2.2.1⟩
theorem plan36 (c : Cf) (hc : headR c) (t : Tk) (hC : 1 ≤ t.C ∧ t.C ≤ 200) (k : Int) (nl : Bool) (ps : List Pc) (hl1 : ps.length ≤ 1000) :
    PureCall Tryz.prog 36 [eCf c, eT t, ePl k nl ps] (.p (.bool (planB c.cores c.lag c.move t.C t.D t.secs.length k ps))) := by
  have hm := maxLen_eq
  obtain ⟨⟨c1, c2⟩, ⟨c3, c4⟩, ⟨c5, c6⟩, c7, c8⟩ := hc
  have hpc := fun p => piece62 c p
  have hrow : ∀ (j : Nat) (hj : j < ps.length), (ps.map eP)[j]? = some (.agg [.int .i64 ps[j].core, .int .i64 ps[j].off, .int .i64 ps[j].len, .int .i64 ps[j].c]) := fun j hj => by simp [hj, eP]
  simp only [eCf, eP] at hpc
  refine Fn.run k36 rfl ?_
  generalize Tryz.prog = P at *
  (repeat' ((conv => whnf); first | exact trivial | with_reducible refine zX ?_ | refine ⟨rfl, ?_⟩ | refine ⟨_, rfl, ?_⟩ | with_reducible refine zP ?_ | with_reducible refine zL ?_ | refine ⟨fun _ => ?_, fun _ => ?_⟩ | refine zn ?_ | refine zb rfl ?_ | refine zX ?_ | refine zo rfl ?_ | refine zs ?_ | intro _)); all_goals (try (conv => whnf))
  refine loop_inv (fun n s => ∃ i : Nat, n + i = ps.length ∧ Pre c.cores c.lag c.move (ps.take i) ∧
    s = ⟨mkT 171 [(3, .addr 0 5 0 0), (4, .addr 1 4 0 0), (5, .addr 2 2 0 0), (7, .p (.int .i64 (ps.map eP).length)), (8, .p (.int .i64 (sumC (ps.take i)))), (9, .p (.int .i64 i))], [some (bCf c true), some (bTk t), some (bPl k nl ps), none]⟩) ps.length ?_ ?_
  · conv => whnf
    exact ⟨0, rfl, Pre.nil, rfl⟩
  · rintro n st b N ⟨i, hi, hpre, e⟩ hN
    cases e
    by_cases hlt : i < ps.length
    · have hb := lt_t (n := (ps.map eP).length) (by simpa using hlt)
      have hr1 := hrow i hlt
      have hp := hpc ps[i]
      have hst := sum_take hlt
      have hsb := sum_bound hpre.pcs
      have htl : (ps.take i).length ≤ 1000 := by simp; omega
      have hadd := fun h1 h2 h3 h4 => Pre.add (cores := c.cores) (lag := c.lag) (move := c.move) hlt hpre h1 h2 h3 h4
      have hnext := fun h : Pre c.cores c.lag c.move ps => h.next_of hlt
      have hno : ¬ (ps[i].ok c.cores = true ∧ (∀ p, p ∈ ps.take i → p.core ≠ ps[i].core) ∧ (i = 0 → ps[i].off = 0) ∧ ∀ j (hj : j < ps.length), i = j + 1 → ps[j].off + ps[j].len + c.lag ≤ ps[i].off ∧ c.move < ps[i].c) → planB c.cores c.lag c.move t.C t.D t.secs.length k ps = false := fun hn => plan_no fun h => hn (hnext h.1)
      have hprev : ∀ j (hj : j < ps.length), i = j + 1 → ps[j].ok c.cores = true := fun j hj e => hpre.pcs _ (by
        subst e; exact List.mem_iff_getElem.2 ⟨j, by simp; omega, by simp⟩)
      generalize hxi : ps[i] = x at *
      cases hok : x.ok c.cores with
      | false =>
        rw [hok] at hp
        rw [hno fun h => by have := h.1; rw [hok] at this; cases this]
        clear hN hrow hadd hnext hno hprev
        (repeat' ((conv => whnf); first | exact trivial | with_reducible refine zX ?_ | refine ⟨rfl, ?_⟩ | refine ⟨_, rfl, ?_⟩ | with_reducible refine zP ?_ | with_reducible refine zL ?_ | refine ⟨fun _ => ?_, fun _ => ?_⟩ | refine zn ?_ | refine zb rfl ?_ | refine zX ?_ | refine zo rfl ?_ | refine zs ?_ | intro _)); all_goals (try (conv => whnf))
        all_goals exact bool_end rfl
      | true =>
        rw [hok] at hp
        have ho := Pc.ok_iff.1 hok
        have w0 : IntKind.wrap .i64 (sumC (ps.take i) + x.c) = sumC (ps.take (i + 1)) := by rw [hst]; exact wrapE (by omega) (by omega)
        have hstep : ∀ {s : St}, Pre c.cores c.lag c.move (ps.take (i + 1)) → s = ⟨mkT 171 [(3, .addr 0 5 0 0), (4, .addr 1 4 0 0), (5, .addr 2 2 0 0), (7, .p (.int .i64 (ps.map eP).length)), (8, .p (.int .i64 (IntKind.wrap .i64 (sumC (ps.take i) + x.c)))), (9, .p (.int .i64 (IntKind.wrap .i64 ((i : Int) + 1))))], [some (bCf c true), some (bTk t), some (bPl k nl ps), none]⟩ → N s := fun hk e => by
          rw [next1 (n := ps.length) hlt (by omega), w0] at e
          exact hN (n - 1) _ (by omega) ⟨i + 1, by omega, hk, e⟩
        (repeat' ((conv => whnf); first | exact trivial | with_reducible refine zX ?_ | refine ⟨rfl, ?_⟩ | refine ⟨_, rfl, ?_⟩ | with_reducible refine zP ?_ | with_reducible refine zL ?_ | refine ⟨fun _ => ?_, fun _ => ?_⟩ | refine zn ?_ | refine zb rfl ?_ | refine zX ?_ | refine zo rfl ?_ | refine zs ?_ | intro _)); all_goals (try (conv => whnf))
        refine loop_inv (fun n s => ∃ j : Nat, n + j = i ∧ (∀ p, p ∈ ps.take j → p.core ≠ x.core) ∧
          s = ⟨mkT 171 [(3, .addr 0 5 0 0), (4, .addr 1 4 0 0), (5, .addr 2 2 0 0), (7, .p (.int .i64 (ps.map eP).length)), (8, .p (.int .i64 (IntKind.wrap .i64 (sumC (ps.take i) + x.c)))), (9, .p (.int .i64 i)), (10, .addr 3 4 0 0), (11, .p (.int .i64 j))], [some (bCf c true), some (bTk t), some (bPl k nl ps), some ⟨true, 4, [[.p (.int .i64 x.core), .p (.int .i64 x.off), .p (.int .i64 x.len), .p (.int .i64 x.c)]], false⟩]⟩) i ?_ ?_
        · conv => whnf
          exact ⟨0, rfl, by simp, rfl⟩
        · rintro n2 st2 b2 N2 ⟨j, hj, hap, e⟩ hN2
          cases e
          by_cases hjl : j < i
          · have hb2 : decide ((j : Int) < (i : Int)) = true := lt_t hjl
            have hr2 := hrow j (by omega)
            have hmem : ps[j]'(by omega) ∈ ps.take i := List.mem_iff_getElem.2 ⟨j, by simp; omega, by simp⟩
            have htk := List.take_succ_eq_append_getElem (show j < ps.length by omega)
            generalize ps[j]'(by omega) = y at *
            by_cases hcc : y.core = x.core
            · have d1 : (y.core == x.core) = true := by simpa using hcc
              rw [hno fun h => h.2.1 y hmem hcc]
              clear hN hrow hadd hnext hno hprev hstep hN2
              (repeat' ((conv => whnf); first | exact trivial | with_reducible refine zX ?_ | refine ⟨rfl, ?_⟩ | refine ⟨_, rfl, ?_⟩ | with_reducible refine zP ?_ | with_reducible refine zL ?_ | refine ⟨fun _ => ?_, fun _ => ?_⟩ | refine zn ?_ | refine zb rfl ?_ | refine zX ?_ | refine zo rfl ?_ | refine zs ?_ | intro _)); all_goals (try (conv => whnf))
              all_goals exact bool_end rfl
            · have d1 : (y.core == x.core) = false := by simpa using hcc
              clear hN hrow hadd hnext hno hprev hstep
              (repeat' ((conv => whnf); first | exact trivial | with_reducible refine zX ?_ | refine ⟨rfl, ?_⟩ | refine ⟨_, rfl, ?_⟩ | with_reducible refine zP ?_ | with_reducible refine zL ?_ | refine ⟨fun _ => ?_, fun _ => ?_⟩ | refine zn ?_ | refine zb rfl ?_ | refine zX ?_ | refine zo rfl ?_ | refine zs ?_ | intro _)); all_goals (try (conv => whnf))
              rw [next1 (n := i) hjl (by omega)]
              refine hN2 (n2 - 1) _ (by omega) ⟨j + 1, by omega, fun p hp => ?_, rfl⟩
              rw [htk] at hp
              rcases List.mem_append.1 hp with hp | hp
              · exact hap p hp
              · simp only [List.mem_singleton] at hp; subst hp; exact hcc
          · have hb2 : decide ((j : Int) < (i : Int)) = false := lt_f hjl
            have hji : j = i := by omega
            subst hji
            clear hN2
            cases j with
            | zero =>
              have d2 : decide (((0 : Nat) : Int) > 0) = false := rfl
              have d3 : (((0 : Nat) : Int) == 0) = true := rfl
              by_cases hoff : x.off = 0
              · have d1 : (x.off != 0) = false := by simpa using hoff
                have hk := hadd hok hap (fun _ => hoff) (fun j hj e => by omega)
                clear hN hrow hadd hnext hno hprev
                (repeat' ((conv => whnf); first | exact trivial | with_reducible refine zX ?_ | refine ⟨rfl, ?_⟩ | refine ⟨_, rfl, ?_⟩ | with_reducible refine zP ?_ | with_reducible refine zL ?_ | refine ⟨fun _ => ?_, fun _ => ?_⟩ | refine zn ?_ | refine zb rfl ?_ | refine zX ?_ | refine zo rfl ?_ | refine zs ?_ | intro _)); all_goals (try (conv => whnf))
                exact hstep hk rfl
              · have d1 : (x.off != 0) = true := by simpa using hoff
                rw [hno fun h => hoff (h.2.2.1 rfl)]
                clear hN hrow hadd hnext hno hprev hstep
                (repeat' ((conv => whnf); first | exact trivial | with_reducible refine zX ?_ | refine ⟨rfl, ?_⟩ | refine ⟨_, rfl, ?_⟩ | with_reducible refine zP ?_ | with_reducible refine zL ?_ | refine ⟨fun _ => ?_, fun _ => ?_⟩ | refine zn ?_ | refine zb rfl ?_ | refine zX ?_ | refine zo rfl ?_ | refine zs ?_ | intro _)); all_goals (try (conv => whnf))
                all_goals exact bool_end rfl
            | succ j =>
              have d2 : decide (((j + 1 : Nat) : Int) > 0) = true := decide_eq_true (by omega)
              have d3 : (((j + 1 : Nat) : Int) == 0) = false := beq_ne (by omega)
              have e1 : IntKind.wrap .i64 (((j + 1 : Nat) : Int) - 1) = (j : Int) := by rw [wrapE (by omega) (by omega)]; omega
              have r1 := hrow j (by omega)
              have g1 : (ps.map eP)[(IntKind.wrap .i64 (((j + 1 : Nat) : Int) - 1)).toNat]? = some (.agg [.int .i64 ps[j].core, .int .i64 ps[j].off, .int .i64 ps[j].len, .int .i64 ps[j].c]) := by rw [e1]; exact r1
              have g0 : (0 : Int) ≤ IntKind.wrap .i64 (((j + 1 : Nat) : Int) - 1) := by rw [e1]; omega
              have o2 := Pc.ok_iff.1 (hprev j (by omega) rfl)
              have hk2 := fun (hk : ps[j].off + ps[j].len + c.lag ≤ x.off ∧ c.move < x.c) => hadd hok hap (fun e => by omega) (fun i' hi' e => by
                have e : i' = j := by omega
                subst e
                exact hk)
              have hno2 := fun (hn : ¬ (ps[j].off + ps[j].len + c.lag ≤ x.off ∧ c.move < x.c)) => hno fun h => hn (h.2.2.2 j (by omega) rfl)
              have w1 : IntKind.wrap .i64 (IntKind.wrap .i64 (ps[j].off + ps[j].len) + c.lag) = ps[j].off + ps[j].len + c.lag := by rw [wrapE (n := ps[j].off + ps[j].len) (by omega) (by omega), wrapE (by omega) (by omega)]
              generalize ps[j]'(by omega) = y at *
              clear hN hrow hadd hnext hno hprev
              by_cases k1 : x.off < y.off + y.len + c.lag
              · have d4 : decide (x.off < IntKind.wrap .i64 (IntKind.wrap .i64 (y.off + y.len) + c.lag)) = true := decide_eq_true (by rw [w1]; exact k1)
                rw [hno2 (by omega)]
                (repeat' ((conv => whnf); first | exact trivial | with_reducible refine zX ?_ | refine ⟨rfl, ?_⟩ | refine ⟨_, rfl, ?_⟩ | with_reducible refine zP ?_ | with_reducible refine zL ?_ | refine ⟨fun _ => ?_, fun _ => ?_⟩ | refine zn ?_ | refine zb rfl ?_ | refine zX ?_ | refine zo rfl ?_ | refine zs ?_ | intro _)); all_goals (try (conv => whnf))
                all_goals exact bool_end rfl
              · have d4 : decide (x.off < IntKind.wrap .i64 (IntKind.wrap .i64 (y.off + y.len) + c.lag)) = false := decide_eq_false (by rw [w1]; exact k1)
                by_cases k2 : x.c ≤ c.move
                · have d5 : decide (x.c ≤ c.move) = true := decide_eq_true k2
                  rw [hno2 (by omega)]
                  (repeat' ((conv => whnf); first | exact trivial | with_reducible refine zX ?_ | refine ⟨rfl, ?_⟩ | refine ⟨_, rfl, ?_⟩ | with_reducible refine zP ?_ | with_reducible refine zL ?_ | refine ⟨fun _ => ?_, fun _ => ?_⟩ | refine zn ?_ | refine zb rfl ?_ | refine zX ?_ | refine zo rfl ?_ | refine zs ?_ | intro _)); all_goals (try (conv => whnf))
                  all_goals exact bool_end rfl
                · have d5 : decide (x.c ≤ c.move) = false := decide_eq_false k2
                  (repeat' ((conv => whnf); first | exact trivial | with_reducible refine zX ?_ | refine ⟨rfl, ?_⟩ | refine ⟨_, rfl, ?_⟩ | with_reducible refine zP ?_ | with_reducible refine zL ?_ | refine ⟨fun _ => ?_, fun _ => ?_⟩ | refine zn ?_ | refine zb rfl ?_ | refine zX ?_ | refine zo rfl ?_ | refine zs ?_ | intro _)); all_goals (try (conv => whnf))
                  exact hstep (hk2 (by omega)) rfl
    · have hb := lt_f (i := i) (n := (ps.map eP).length) (by simpa using hlt)
      have htk : ps.take i = ps := List.take_of_length_le (by omega)
      rw [htk] at hpre
      rw [htk]
      clear hN hpc
      by_cases hn : ps = []
      · have d1 : (((ps.map eP).length : Int) == 0) = true := by subst hn; rfl
        rw [plan_no fun h => h.2.1 hn]
        (repeat' ((conv => whnf); first | exact trivial | with_reducible refine zX ?_ | refine ⟨rfl, ?_⟩ | refine ⟨_, rfl, ?_⟩ | with_reducible refine zP ?_ | with_reducible refine zL ?_ | refine ⟨fun _ => ?_, fun _ => ?_⟩ | refine zn ?_ | refine zb rfl ?_ | refine zX ?_ | refine zo rfl ?_ | refine zs ?_ | intro _)); all_goals (try (conv => whnf))
        all_goals exact bool_end rfl
      have hpos : 0 < ps.length := List.length_pos_iff.2 hn
      have d1 : (((ps.map eP).length : Int) == 0) = false := beq_ne (by simp; omega)
      have hil : ps.length - 1 < ps.length := by omega
      have hle := lastEnd_getElem hn hil
      have r1 := hrow (ps.length - 1) hil
      have r0 := hrow 0 hpos
      have o1 := Pc.ok_iff.1 (hpre.pcs _ (List.getElem_mem hil))
      have e1 : IntKind.wrap .i64 (((ps.map eP).length : Int) - 1) = ((ps.length - 1 : Nat) : Int) := by rw [List.length_map, wrapE (by omega) (by omega)]; omega
      have g0 : (0 : Int) ≤ IntKind.wrap .i64 (((ps.map eP).length : Int) - 1) := by rw [e1]; omega
      have g1 : (ps.map eP)[(IntKind.wrap .i64 (((ps.map eP).length : Int) - 1)).toNat]? = some (.agg [.int .i64 ps[ps.length - 1].core, .int .i64 ps[ps.length - 1].off, .int .i64 ps[ps.length - 1].len, .int .i64 ps[ps.length - 1].c]) := by rw [e1]; exact r1
      have w1 : IntKind.wrap .i64 (ps[ps.length - 1].off + ps[ps.length - 1].len) = lastEnd ps := by rw [wrapE (by omega) (by omega), hle]
      have hmv : 0 ≤ ((ps.length : Int) - 1) * c.move ∧ ((ps.length : Int) - 1) * c.move ≤ 5000 := by
        refine ⟨Int.mul_nonneg (by omega) c7, ?_⟩
        calc ((ps.length : Int) - 1) * c.move ≤ 1000 * 5 := Int.mul_le_mul (by omega) (by omega) (by omega) (by omega)
          _ = 5000 := by omega
      have w2 : IntKind.wrap .i64 (t.C + IntKind.wrap .i64 (IntKind.wrap .i64 (((ps.map eP).length : Int) - 1) * c.move)) = t.C + ((ps.length : Int) - 1) * c.move := by
        rw [e1, show ((ps.length - 1 : Nat) : Int) = (ps.length : Int) - 1 by omega, wrapE (n := ((ps.length : Int) - 1) * c.move) (by omega) (by omega), wrapE (by omega) (by omega)]
      generalize hz : ps[ps.length - 1] = z at *
      by_cases k1 : sumC ps = t.C + ((ps.length : Int) - 1) * c.move
      case neg =>
        have d2 : (sumC ps != IntKind.wrap .i64 (t.C + IntKind.wrap .i64 (IntKind.wrap .i64 (((ps.map eP).length : Int) - 1) * c.move))) = true := by rw [w2]; simpa using k1
        rw [plan_no fun h => k1 h.2.2.1]
        (repeat' ((conv => whnf); first | exact trivial | with_reducible refine zX ?_ | refine ⟨rfl, ?_⟩ | refine ⟨_, rfl, ?_⟩ | with_reducible refine zP ?_ | with_reducible refine zL ?_ | refine ⟨fun _ => ?_, fun _ => ?_⟩ | refine zn ?_ | refine zb rfl ?_ | refine zX ?_ | refine zo rfl ?_ | refine zs ?_ | intro _)); all_goals (try (conv => whnf))
        all_goals exact bool_end rfl
      have d2 : (sumC ps != IntKind.wrap .i64 (t.C + IntKind.wrap .i64 (IntKind.wrap .i64 (((ps.map eP).length : Int) - 1) * c.move))) = false := by rw [w2]; simpa using k1
      by_cases k2 : lastEnd ps ≤ t.D
      case neg =>
        have d3 : decide (IntKind.wrap .i64 (z.off + z.len) > t.D) = true := decide_eq_true (by rw [w1]; omega)
        rw [plan_no fun h => k2 h.2.2.2]
        (repeat' ((conv => whnf); first | exact trivial | with_reducible refine zX ?_ | refine ⟨rfl, ?_⟩ | refine ⟨_, rfl, ?_⟩ | with_reducible refine zP ?_ | with_reducible refine zL ?_ | refine ⟨fun _ => ?_, fun _ => ?_⟩ | refine zn ?_ | refine zb rfl ?_ | refine zX ?_ | refine zo rfl ?_ | refine zs ?_ | intro _)); all_goals (try (conv => whnf))
        all_goals exact bool_end rfl
      have d3 : decide (IntKind.wrap .i64 (z.off + z.len) > t.D) = false := decide_eq_false (by rw [w1]; omega)
      have hend := fun k => plan_end (kind := k) (nsec := t.secs.length) (C := t.C) (D := t.D) hpre hn k1 k2
      have hkd : ∀ {b : Bool}, (b = true ↔ Ma.kindOk t.D t.secs.length k ps) → planB c.cores c.lag c.move t.C t.D t.secs.length k ps = b := fun h => by
        rw [Bool.eq_iff_iff, hend, h]
      by_cases q1 : k = 1
      · subst q1
        have z1 : ((1 : Int) == 1) = true := rfl
        by_cases hl : ps.length = 1
        · have b1 : (((ps.map eP).length : Int) == 1) = true := by simp [hl]
          have hz0 : ps[0] = z := by rw [← hz]; congr 1; omega
          rw [hz0] at r0
          rw [hkd (b := (z.len == t.D)) (by
            obtain ⟨p, rfl⟩ := List.length_eq_one_iff.1 hl
            simp only [List.getElem_cons_zero] at hz0
            subst hz0
            simp [Ma.kindOk])]
          clear hrow hend hkd
          (repeat' ((conv => whnf); first | exact trivial | with_reducible refine zX ?_ | refine ⟨rfl, ?_⟩ | refine ⟨_, rfl, ?_⟩ | with_reducible refine zP ?_ | with_reducible refine zL ?_ | refine ⟨fun _ => ?_, fun _ => ?_⟩ | refine zn ?_ | refine zb rfl ?_ | refine zX ?_ | refine zo rfl ?_ | refine zs ?_ | intro _)); all_goals (try (conv => whnf))
          all_goals exact bool_end rfl
        · have b1 : (((ps.map eP).length : Int) == 1) = false := beq_ne (by simp; omega)
          rw [hkd (b := false) (by
            simp only [Bool.false_eq_true, false_iff]
            rintro (⟨_, p, rfl, _⟩ | ⟨e, _⟩ | ⟨e, _⟩)
            · exact hl rfl
            · cases e
            · cases e)]
          clear hrow hend hkd
          (repeat' ((conv => whnf); first | exact trivial | with_reducible refine zX ?_ | refine ⟨rfl, ?_⟩ | refine ⟨_, rfl, ?_⟩ | with_reducible refine zP ?_ | with_reducible refine zL ?_ | refine ⟨fun _ => ?_, fun _ => ?_⟩ | refine zn ?_ | refine zb rfl ?_ | refine zX ?_ | refine zo rfl ?_ | refine zs ?_ | intro _)); all_goals (try (conv => whnf))
          all_goals exact bool_end rfl
      · have b0 := beq_ne q1
        by_cases q2 : k = 2
        · subst q2
          have z1 : ((2 : Int) == 1) = false := rfl
          have z2 : ((2 : Int) == 2) = true := rfl
          have hk2 : Ma.kindOk t.D t.secs.length 2 ps ↔ 2 ≤ ps.length ∧ t.secs.length = 0 := by
            constructor
            · rintro (⟨e, _⟩ | ⟨_, e1, e2⟩ | ⟨e, _⟩)
              · cases e
              · exact ⟨e1, e2⟩
              · cases e
            · intro h; exact .inr (.inl ⟨rfl, h.1, h.2⟩)
          by_cases hl : 2 ≤ ps.length
          · have b1 : decide (((ps.map eP).length : Int) ≥ 2) = true := decide_eq_true (by rw [List.length_map]; omega)
            rw [hkd (b := (((t.secs.map eS).length : Int) == 0)) (by
              rw [hk2, beq_iff_eq, List.length_map]; omega)]
            clear hrow hend hkd
            (repeat' ((conv => whnf); first | exact trivial | with_reducible refine zX ?_ | refine ⟨rfl, ?_⟩ | refine ⟨_, rfl, ?_⟩ | with_reducible refine zP ?_ | with_reducible refine zL ?_ | refine ⟨fun _ => ?_, fun _ => ?_⟩ | refine zn ?_ | refine zb rfl ?_ | refine zX ?_ | refine zo rfl ?_ | refine zs ?_ | intro _)); all_goals (try (conv => whnf))
            all_goals exact bool_end rfl
          · have b1 : decide (((ps.map eP).length : Int) ≥ 2) = false := decide_eq_false (by rw [List.length_map]; omega)
            rw [hkd (b := false) (by
              rw [hk2]; simp only [Bool.false_eq_true, false_iff]; omega)]
            clear hrow hend hkd
            (repeat' ((conv => whnf); first | exact trivial | with_reducible refine zX ?_ | refine ⟨rfl, ?_⟩ | refine ⟨_, rfl, ?_⟩ | with_reducible refine zP ?_ | with_reducible refine zL ?_ | refine ⟨fun _ => ?_, fun _ => ?_⟩ | refine zn ?_ | refine zb rfl ?_ | refine zX ?_ | refine zo rfl ?_ | refine zs ?_ | intro _)); all_goals (try (conv => whnf))
            all_goals exact bool_end rfl
        · have b02 := beq_ne q2
          by_cases q3 : k = 3
          · subst q3
            have z1 : ((3 : Int) == 1) = false := rfl
            have z2 : ((3 : Int) == 2) = false := rfl
            have z3 : ((3 : Int) == 3) = true := rfl
            by_cases hl : ps.length = 2
            · have b1 : (((ps.map eP).length : Int) == 2) = true := by simp [hl]
              rw [hkd (b := (((t.secs.map eS).length : Int) == 0) && (ps[0].len == ps[0].c)) (by
                obtain ⟨p, q, rfl⟩ := two_of hl
                simp [Ma.kindOk])]
              generalize ps[0] = x0 at *
              clear hrow hend hkd
              (repeat' ((conv => whnf); first | exact trivial | with_reducible refine zX ?_ | refine ⟨rfl, ?_⟩ | refine ⟨_, rfl, ?_⟩ | with_reducible refine zP ?_ | with_reducible refine zL ?_ | refine ⟨fun _ => ?_, fun _ => ?_⟩ | refine zn ?_ | refine zb rfl ?_ | refine zX ?_ | refine zo rfl ?_ | refine zs ?_ | intro _)); all_goals (try (conv => whnf))
              all_goals (refine bool_end ?_; simp_all)
            · have b1 : (((ps.map eP).length : Int) == 2) = false := beq_ne (by simp; omega)
              rw [hkd (b := false) (by
                simp only [Bool.false_eq_true, false_iff]
                rintro (⟨e, _⟩ | ⟨e, _⟩ | ⟨_, _, p, q, rfl, _⟩)
                · cases e
                · cases e
                · exact hl rfl)]
              clear hrow hend hkd
              (repeat' ((conv => whnf); first | exact trivial | with_reducible refine zX ?_ | refine ⟨rfl, ?_⟩ | refine ⟨_, rfl, ?_⟩ | with_reducible refine zP ?_ | with_reducible refine zL ?_ | refine ⟨fun _ => ?_, fun _ => ?_⟩ | refine zn ?_ | refine zb rfl ?_ | refine zX ?_ | refine zo rfl ?_ | refine zs ?_ | intro _)); all_goals (try (conv => whnf))
              all_goals exact bool_end rfl
          · have b03 := beq_ne q3
            rw [hkd (b := false) (by
              simp only [Bool.false_eq_true, false_iff]
              rintro (⟨e, _⟩ | ⟨e, _⟩ | ⟨e, _⟩)
              · exact q1 e
              · exact q2 e
              · exact q3 e)]
            clear hrow hend hkd
            (repeat' ((conv => whnf); first | exact trivial | with_reducible refine zX ?_ | refine ⟨rfl, ?_⟩ | refine ⟨_, rfl, ?_⟩ | with_reducible refine zP ?_ | with_reducible refine zL ?_ | refine ⟨fun _ => ?_, fun _ => ?_⟩ | refine zn ?_ | refine zb rfl ?_ | refine zX ?_ | refine zo rfl ?_ | refine zs ?_ | intro _)); all_goals (try (conv => whnf))
            all_goals exact bool_end rfl
end Go.Proofs.YtkjghcbnmipgfaaGreatDoor.Vc
