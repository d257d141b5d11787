/- Part of a proof over a Go program: Cx. No condition. -/
import Derived.Test.YtkjghcbnmipgfaaGreatDoorA31
set_option linter.unusedSectionVars false
set_option linter.unusedSimpArgs false
set_option linter.unusedVariables false
set_option maxHeartbeats 4000000
set_option maxRecDepth 100000
namespace Go.Proofs.YtkjghcbnmipgfaaGreatDoor.Vc
open Go.RowKit Ma
noncomputable def winP (c : Cf) (t : Tk) (ls : LL) : List Pc := if t.secs = [] then windowV c.lag c.move t.C t.D t.T (ls.map (·.2)) (c.cores.toNat - 1) 2 else []
theorem planR_plain (k : Int) (ps : List Pc) : (planR k ps).plain = true := by unfold planR; split <;> rfl
theorem planR_none {k : Int} {ps : List Pc} (h : ps = []) : resOf [TV.p (.agg [.int .i64 0, .sl 4 true []]), TV.p (.bool false)] = planR k ps := by unfold planR; rw [if_pos h]; rfl
theorem planR_some {k : Int} {ps qs : List Pc} (h : ps = qs) (h1 : 0 < qs.length) : resOf [TV.p (.agg [.int .i64 k, .sl 4 qs.isEmpty (qs.map eP)]), TV.p (.bool true)] = planR k ps := by
  subst h
  unfold planR
  have : ps ≠ [] := fun e => by subst e; simp at h1
  rw [if_neg this, List.isEmpty_eq_false_iff.2 this]; rfl
theorem mosts_eq (ls : LL) (w T : Int) : ((ls.map (·.2)).map fun l => mostV l w T w) = mostsV ls w T := by rw [List.map_map]; rfl
theorem best_x {ls : LL} {w T move : Int} {n : Nat} (hm : 0 ≤ move) (hw : w ≤ 200) : ∀ p, p ∈ bestV (places move (mostsV ls w T)) n → move < p.x ∧ p.x ≤ 1000 := by
  intro p hp
  obtain ⟨h1, h2, h3⟩ := bestV_x hp
  refine ⟨h3, ?_⟩
  unfold mostsV at h2
  rw [List.getElem?_map] at h2
  cases hl : ls[p.core.toNat]? with
  | none => rw [hl] at h2; simp at h2
  | some q =>
    rw [hl] at h2
    simp only [Option.map_some, Option.some.injEq] at h2
    have := (mostV_bound q.2 w T w).2 (by omega)
    omega
theorem best_few {ls : LL} {w T move : Int} {n : Nat} (hf : ls.length ≤ 12) : (bestV (places move (mostsV ls w T)) n).length ≤ 12 := by
  rw [bestV_length]
  have hpl := placesFrom_length (move := move) (mostsV ls w T) 0
  have hml : (mostsV ls w T).length = ls.length := by simp [mostsV]
  unfold places
  split <;> omega
theorem split28 (c : Cf) (hc : c.ok = true) (t : Tk) (ht : t.ok c.res.length = true) (nl : Bool) (ls : LL) (h : LLok ls) (hls : (ls.length : Int) = c.cores) :
    PureCall Tryz.prog 28 [eCf c, sLL nl ls, eT t] (planR 2 (winP c t ls)) := by
  have hm := maxLen_eq
  obtain ⟨hh, hrl⟩ := cf_head hc
  have hth := tk_head ht
  have hsl : t.secs.length ≤ 2 := hth.2.2.2.2
  have h50 := config50 c (by omega)
  have h51 := task51 c t (by omega)
  rw [hc] at h50
  rw [ht] at h51
  obtain ⟨⟨c1, c2⟩, ⟨c3, c4⟩, ⟨c5, c6⟩, c7, c8⟩ := id hh
  obtain ⟨t1, t2, t3, t4, t5⟩ := hth
  have h30 := fun (n : Nat) (hn : n ≤ 12) => size30 c t n ⟨c5, c6⟩ (by omega) (by omega)
  have h55 := fun (n : Nat) (hn : 1 ≤ n) (w : Int) (hw : 0 ≤ w) => best55 c nl ls h (by omega) t n hn w hw
  have h54 := fun (w : Int) (hw : 0 ≤ w ∧ w ≤ 1000) (b : Bool) (L : List Ma.Place) (hL : L.length ≤ 12) hx => pieces54 c hh t (by omega) w hw b L hL hx
  simp only [eCf, eT] at h50 h51 h30 h55 h54
  have g1 : (((ls.map eC).length : Int) != c.cores) = false := by simp [hls]
  have hnone : ∀ {W : List Pc}, winP c t ls = W → W = [] → resOf [TV.p (.agg [.int .i64 0, .sl 4 true []]), TV.p (.bool false)] = planR 2 (winP c t ls) := fun e1 e2 => planR_none (e1.trans e2)
  by_cases hs : t.secs = []
  case neg =>
    have g2 : decide (((t.secs.map eS).length : Int) > 0) = true := decide_eq_true (by have := List.length_pos_iff.2 hs; simp; omega)
    have hW : winP c t ls = [] := by unfold winP; rw [if_neg hs]
    have hN := hnone hW rfl
    generalize planR 2 (winP c t ls) = R at *
    have hR : R.plain = true := by rw [← hN]; rfl
    clear h30 h55 h54
    refine Fn.run k28 hR ?_
    generalize Tryz.prog = P at *
    (repeat' ((conv => whnf); first | exact trivial | with_reducible refine zX ?_ | refine ⟨rfl, ?_⟩ | refine ⟨_, rfl, ?_⟩ | with_reducible refine zP ?_ | with_reducible refine zL ?_ | refine ⟨fun _ => ?_, fun _ => ?_⟩ | refine zn ?_ | refine zb rfl ?_ | refine zX ?_ | refine zo rfl ?_ | refine zs ?_ | intro _)); all_goals (try (conv => whnf))
    all_goals exact hN
  have g2 : decide (((t.secs.map eS).length : Int) > 0) = false := decide_eq_false (by rw [hs]; simp)
  have hW : winP c t ls = windowV c.lag c.move t.C t.D t.T (ls.map (·.2)) (c.cores.toNat - 1) 2 := by unfold winP; rw [if_pos hs]
  have hsome : ∀ {L : List Pc}, winP c t ls = L → 1 < L.length → resOf [TV.p (.agg [.int .i64 2, .sl 4 L.isEmpty (L.map eP)]), TV.p (.bool true)] = planR 2 (winP c t ls) := fun e1 e2 => planR_some e1 (by omega)
  have hR := planR_plain 2 (winP c t ls)
  generalize planR 2 (winP c t ls) = R at *
  generalize winP c t ls = W at *
  refine Fn.run k28 hR ?_
  generalize Tryz.prog = P at *
  (repeat' ((conv => whnf); first | exact trivial | with_reducible refine zX ?_ | refine ⟨rfl, ?_⟩ | refine ⟨_, rfl, ?_⟩ | with_reducible refine zP ?_ | with_reducible refine zL ?_ | refine ⟨fun _ => ?_, fun _ => ?_⟩ | refine zn ?_ | refine zb rfl ?_ | refine zX ?_ | refine zo rfl ?_ | refine zs ?_ | intro _)); all_goals (try (conv => whnf))
  refine loop_inv (fun m s => ∃ i : Nat, m + i = c.cores.toNat + 1 ∧ 2 ≤ i ∧ W = windowV c.lag c.move t.C t.D t.T (ls.map (·.2)) (c.cores.toNat + 1 - i) i ∧
    s = ⟨mkT 64 [(1, .p (sLL nl ls)), (3, .addr 0 5 0 0), (5, .addr 1 4 0 0), (6, .addr 2 2 0 0), (8, .p (.int .i64 i))], [some (bCf c true), some (bTk t), some ⟨true, 2, [[.p (.int .i64 0), .ow 4 true []]], false⟩]⟩) (c.cores.toNat - 1) ?_ ?_
  · conv => whnf
    exact ⟨2, by omega, Nat.le_refl _, hW, rfl⟩
  · rintro m st bb N ⟨i, hi, hi2, hI, e⟩ hN
    cases e
    by_cases hil : (i : Int) ≤ c.cores
    · have hb : decide ((i : Int) ≤ c.cores) = true := decide_eq_true hil
      rw [show c.cores.toNat + 1 - i = (c.cores.toNat - i) + 1 by omega] at hI
      simp only [windowV, mosts_eq] at hI
      have hsz := h30 i (by omega)
      have hbd := @sizeV_bound c.lag t.D i
      generalize sizeV t.D c.lag i = w at *
      by_cases hz : w = 0
      · have d1 : (w == 0) = true := by simpa using hz
        rw [if_pos hz] at hI
        clear hN h55 h54 h30
        (repeat' ((conv => whnf); first | exact trivial | with_reducible refine zX ?_ | refine ⟨rfl, ?_⟩ | refine ⟨_, rfl, ?_⟩ | with_reducible refine zP ?_ | with_reducible refine zL ?_ | refine ⟨fun _ => ?_, fun _ => ?_⟩ | refine zn ?_ | refine zb rfl ?_ | refine zX ?_ | refine zo rfl ?_ | refine zs ?_ | intro _)); all_goals (try (conv => whnf))
        all_goals exact hnone hI rfl
      · have d1 : (w == 0) = false := by simpa using hz
        rw [if_neg hz] at hI
        have hbd := hbd hz
        have hw2 : w ≤ 200 := by
          have : 1 * w ≤ (i : Int) * w := Int.mul_le_mul_of_nonneg_right (by omega) (by omega)
          have : 0 ≤ ((i : Int) - 1) * c.lag := Int.mul_nonneg (by omega) c5
          omega
        have hb55 := h55 i (by omega) w (by omega)
        have hx := @best_x ls w t.T c.move i c7 hw2
        have hfw := @best_few ls w t.T c.move i (by omega)
        have hstep : ∀ {s : St}, W = windowV c.lag c.move t.C t.D t.T (ls.map (·.2)) (c.cores.toNat - i) (i + 1) → s = ⟨mkT 64 [(1, .p (sLL nl ls)), (3, .addr 0 5 0 0), (5, .addr 1 4 0 0), (6, .addr 2 2 0 0), (8, .p (.int .i64 (IntKind.wrap .i64 ((i : Int) + 1))))], [some (bCf c true), some (bTk t), some ⟨true, 2, [[.p (.int .i64 0), .ow 4 true []]], false⟩]⟩ → N s := fun k e => by
          rw [next1 (n := i + 1) (by omega) (by omega)] at e
          exact hN (m - 1) _ (by omega) ⟨i + 1, by omega, by omega, by rw [show c.cores.toNat + 1 - (i + 1) = c.cores.toNat - i by omega]; exact k, e⟩
        unfold bestR at hb55
        have hbv : (places c.move (mostsV ls w t.T)).length < i → bestV (places c.move (mostsV ls w t.T)) i = [] := fun hlt => by unfold bestV; rw [if_pos hlt]
        clear hN h55 h30
        by_cases hfew : (places c.move (mostsV ls w t.T)).length < i
        · rw [if_pos hfew] at hb55
          rw [hbv hfew] at hI
          have hp := h54 w (by omega) true [] (by simp) (fun p hp => by simp at hp)
          rw [if_neg (by simp [piecesV])] at hI
          clear h54 hx hfw hbv
          simp only [piecesV, List.map_nil, List.isEmpty_nil, List.length_nil, Nat.not_lt_zero, decide_false, Bool.and_false] at hp
          (repeat' ((conv => whnf); first | exact trivial | with_reducible refine zX ?_ | refine ⟨rfl, ?_⟩ | refine ⟨_, rfl, ?_⟩ | with_reducible refine zP ?_ | with_reducible refine zL ?_ | refine ⟨fun _ => ?_, fun _ => ?_⟩ | refine zn ?_ | refine zb rfl ?_ | refine zX ?_ | refine zo rfl ?_ | refine zs ?_ | intro _)); all_goals (try (conv => whnf))
          exact hstep hI rfl
        · rw [if_neg hfew] at hb55
          have hp := h54 w (by omega) false _ hfw hx
          clear h54 hx hfw hbv
          generalize piecesV c.lag w c.move t.C 0 (bestV (places c.move (mostsV ls w t.T)) i) = r at *
          obtain ⟨r1, r2⟩ := r
          simp only at hI hp
          by_cases hok : r2 = 0 ∧ 1 < r1.length
          · rw [if_pos hok] at hI
            have d2 : (decide (r2 = 0) && decide (1 < r1.length)) = true := by simp [hok]
            rw [d2] at hp
            (repeat' ((conv => whnf); first | exact trivial | with_reducible refine zX ?_ | refine ⟨rfl, ?_⟩ | refine ⟨_, rfl, ?_⟩ | with_reducible refine zP ?_ | with_reducible refine zL ?_ | refine ⟨fun _ => ?_, fun _ => ?_⟩ | refine zn ?_ | refine zb rfl ?_ | refine zX ?_ | refine zo rfl ?_ | refine zs ?_ | intro _)); all_goals (try (conv => whnf))
            all_goals exact hsome hI hok.2
          · rw [if_neg hok] at hI
            have d2 : (decide (r2 = 0) && decide (1 < r1.length)) = false := by
              rw [Bool.and_eq_false_iff, decide_eq_false_iff_not, decide_eq_false_iff_not]; omega
            rw [d2] at hp
            (repeat' ((conv => whnf); first | exact trivial | with_reducible refine zX ?_ | refine ⟨rfl, ?_⟩ | refine ⟨_, rfl, ?_⟩ | with_reducible refine zP ?_ | with_reducible refine zL ?_ | refine ⟨fun _ => ?_, fun _ => ?_⟩ | refine zn ?_ | refine zb rfl ?_ | refine zX ?_ | refine zo rfl ?_ | refine zs ?_ | intro _)); all_goals (try (conv => whnf))
            exact hstep hI rfl
    · have hb : decide ((i : Int) ≤ c.cores) = false := decide_eq_false hil
      rw [show c.cores.toNat + 1 - i = 0 by omega] at hI
      clear hN h55 h54 h30
      (repeat' ((conv => whnf); first | exact trivial | with_reducible refine zX ?_ | refine ⟨rfl, ?_⟩ | refine ⟨_, rfl, ?_⟩ | with_reducible refine zP ?_ | with_reducible refine zL ?_ | refine ⟨fun _ => ?_, fun _ => ?_⟩ | refine zn ?_ | refine zb rfl ?_ | refine zX ?_ | refine zo rfl ?_ | refine zs ?_ | intro _)); all_goals (try (conv => whnf))
      all_goals exact hnone hI rfl
end Go.Proofs.YtkjghcbnmipgfaaGreatDoor.Vc
