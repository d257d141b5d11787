/- Part of a proof over a Go program: Cpl. No condition. -/
import Derived.Test.YtkjghcbnmipgfaaGreatDoorA15
set_option linter.unusedSectionVars false
set_option linter.unusedSimpArgs false
set_option linter.unusedVariables false
set_option maxHeartbeats 4000000
set_option maxRecDepth 100000
namespace Go.Proofs.YtkjghcbnmipgfaaGreatDoor.Vc
open Go.RowKit Ma
theorem pc_eq {a b : Pc} (h : a.core = b.core ∧ a.off = b.off ∧ a.len = b.len ∧ a.c = b.c) : a = b := by
  cases a; cases b; simp only at h; obtain ⟨rfl, rfl, rfl, rfl⟩ := h; rfl
def bPl (kind : Int) (nl : Bool) (ps : List Pc) : Box := ⟨true, 2, [[.p (.int .i64 kind), .p (.sl 4 nl (ps.map eP))]], false⟩
theorem take_next {α : Type} {ps qs : List α} {i : Nat} (h1 : i < ps.length) (h2 : i < qs.length) (h : ps.take i = qs.take i) (e : ps[i] = qs[i]) : ps.take (i + 1) = qs.take (i + 1) := by
  rw [List.take_succ_eq_append_getElem h1, List.take_succ_eq_append_getElem h2, h, e]
theorem eqpl24 (k1 k2 : Int) (n1 n2 : Bool) (ps qs : List Pc) (hl1 : ps.length ≤ 1000) : PureCall Tryz.prog 24 [ePl k1 n1 ps, ePl k2 n2 qs] (.p (.bool (decide (k1 = k2) && decide (ps = qs)))) := by
  have hm := maxLen_eq
  by_cases hk : k1 = k2
  · by_cases hl : ps.length = qs.length
    · have b1 : (k1 != k2) = false := by simp [hk]
      have b2 : (((ps.map eP).length : Int) != ((qs.map eP).length : Int)) = false := by simp [hl]
      refine Fn.run k24 rfl ?_
      generalize Tryz.prog = P at *
      (repeat' ((conv => whnf); first | exact trivial | with_reducible refine zX ?_ | refine ⟨rfl, ?_⟩ | refine ⟨_, rfl, ?_⟩ | with_reducible refine zP ?_ | with_reducible refine zL ?_ | refine ⟨fun _ => ?_, fun _ => ?_⟩ | refine zn ?_ | refine zb rfl ?_ | refine zX ?_ | refine zo rfl ?_ | refine zs ?_ | intro _)); all_goals (try (conv => whnf))
      refine loop_inv (fun n s => ∃ i : Nat, n + i = ps.length ∧ ps.take i = qs.take i ∧ s = ⟨mkT 38 [(2, .addr 0 2 0 0), (3, .addr 1 2 0 0), (5, .p (.int .i64 i))], [some (bPl k1 n1 ps), some (bPl k2 n2 qs)]⟩) ps.length ?_ ?_
      · conv => whnf
        exact ⟨0, rfl, rfl, rfl⟩
      · rintro n st b N ⟨i, hi, hI, e⟩ hN
        cases e
        by_cases hlt : i < ps.length
        · have hlt2 : i < qs.length := by omega
          have hr1 : (ps.map eP)[i]? = some (.agg [.int .i64 ps[i].core, .int .i64 ps[i].off, .int .i64 ps[i].len, .int .i64 ps[i].c]) := by simp [hlt, eP]
          have hr2 : (qs.map eP)[i]? = some (.agg [.int .i64 qs[i].core, .int .i64 qs[i].off, .int .i64 qs[i].len, .int .i64 qs[i].c]) := by simp [hlt2, eP]
          have hb := lt_t (n := (ps.map eP).length) (by simpa using hlt)
          have hnx := fun he => take_next hlt hlt2 hI he
          have hne : ps[i] ≠ qs[i] → ps ≠ qs := fun h e => h (by simp [e])
          generalize ps[i] = x at *
          generalize qs[i] = y at *
          (repeat' ((conv => whnf); first | exact trivial | with_reducible refine zX ?_ | refine ⟨rfl, ?_⟩ | refine ⟨_, rfl, ?_⟩ | with_reducible refine zP ?_ | with_reducible refine zL ?_ | refine ⟨fun _ => ?_, fun _ => ?_⟩ | refine zn ?_ | refine zb rfl ?_ | refine zX ?_ | refine zo rfl ?_ | refine zs ?_ | intro _)); all_goals (try (conv => whnf))
          · rename_i e
            refine bool_end ?_
            have : x ≠ y := by intro h; rw [h] at e; simp at e
            simp [hne this]
          · rename_i e
            have : x = y := pc_eq (by simpa using e)
            rw [next1 (n := ps.length) hlt (by omega)]
            exact hN (n - 1) _ (by omega) ⟨i + 1, by omega, hnx this, rfl⟩
        · have hb := lt_f (i := i) (n := (ps.map eP).length) (by simpa using hlt)
          rw [List.take_of_length_le (by omega), List.take_of_length_le (by omega)] at hI
          (repeat' ((conv => whnf); first | exact trivial | with_reducible refine zX ?_ | refine ⟨rfl, ?_⟩ | refine ⟨_, rfl, ?_⟩ | with_reducible refine zP ?_ | with_reducible refine zL ?_ | refine ⟨fun _ => ?_, fun _ => ?_⟩ | refine zn ?_ | refine zb rfl ?_ | refine zX ?_ | refine zo rfl ?_ | refine zs ?_ | intro _)); all_goals (try (conv => whnf))
          exact bool_end (by simp [hk, hI])
    · have b1 : (k1 != k2) = false := by simp [hk]
      have b2 : (((ps.map eP).length : Int) != ((qs.map eP).length : Int)) = true := by simp; omega
      have hne : ps ≠ qs := fun e => hl (by rw [e])
      refine Fn.run k24 rfl ?_
      generalize Tryz.prog = P at *
      (repeat' ((conv => whnf); first | exact trivial | with_reducible refine zX ?_ | refine ⟨rfl, ?_⟩ | refine ⟨_, rfl, ?_⟩ | with_reducible refine zP ?_ | with_reducible refine zL ?_ | refine ⟨fun _ => ?_, fun _ => ?_⟩ | refine zn ?_ | refine zb rfl ?_ | refine zX ?_ | refine zo rfl ?_ | refine zs ?_ | intro _)); all_goals (try (conv => whnf))
      exact bool_end (by simp [hne])
  · have b1 : (k1 != k2) = true := by simp [hk]
    refine Fn.run k24 rfl ?_
    generalize Tryz.prog = P at *
    (repeat' ((conv => whnf); first | exact trivial | with_reducible refine zX ?_ | refine ⟨rfl, ?_⟩ | refine ⟨_, rfl, ?_⟩ | with_reducible refine zP ?_ | with_reducible refine zL ?_ | refine ⟨fun _ => ?_, fun _ => ?_⟩ | refine zn ?_ | refine zb rfl ?_ | refine zX ?_ | refine zo rfl ?_ | refine zs ?_ | intro _)); all_goals (try (conv => whnf))
    exact bool_end (by simp [hk])
theorem eqs63 (n1 n2 : Bool) (ps qs : List Pc) (hl1 : ps.length ≤ 1000) : PureCall Tryz.prog 63 [.sl 4 n1 (ps.map eP), .sl 4 n2 (qs.map eP)] (.p (.bool (decide (ps = qs)))) := by
  have hm := maxLen_eq
  by_cases hl : ps.length = qs.length
  · have b2 : (((ps.map eP).length : Int) != ((qs.map eP).length : Int)) = false := by simp [hl]
    refine Fn.run k63 rfl ?_
    generalize Tryz.prog = P at *
    (repeat' ((conv => whnf); first | exact trivial | with_reducible refine zX ?_ | refine ⟨rfl, ?_⟩ | refine ⟨_, rfl, ?_⟩ | with_reducible refine zP ?_ | with_reducible refine zL ?_ | refine ⟨fun _ => ?_, fun _ => ?_⟩ | refine zn ?_ | refine zb rfl ?_ | refine zX ?_ | refine zo rfl ?_ | refine zs ?_ | intro _)); all_goals (try (conv => whnf))
    refine loop_inv (fun n s => ∃ i : Nat, n + i = ps.length ∧ ps.take i = qs.take i ∧ s = ⟨mkT 26 [(0, .p (.sl 4 n1 (ps.map eP))), (1, .p (.sl 4 n2 (qs.map eP))), (12, .p (.int .i64 (ps.map eP).length)), (13, .p (.int .i64 i))], []⟩) ps.length ?_ ?_
    · conv => whnf
      exact ⟨0, rfl, rfl, rfl⟩
    · rintro n st b N ⟨i, hi, hI, e⟩ hN
      cases e
      by_cases hlt : i < ps.length
      · have hlt2 : i < qs.length := by omega
        have hr1 : (ps.map eP)[i]? = some (.agg [.int .i64 ps[i].core, .int .i64 ps[i].off, .int .i64 ps[i].len, .int .i64 ps[i].c]) := by simp [hlt, eP]
        have hr2 : (qs.map eP)[i]? = some (.agg [.int .i64 qs[i].core, .int .i64 qs[i].off, .int .i64 qs[i].len, .int .i64 qs[i].c]) := by simp [hlt2, eP]
        have hb := lt_t (n := (ps.map eP).length) (by simpa using hlt)
        have hnx := fun he => take_next hlt hlt2 hI he
        have hne : ps[i] ≠ qs[i] → ps ≠ qs := fun h e => h (by simp [e])
        generalize ps[i] = x at *
        generalize qs[i] = y at *
        (repeat' ((conv => whnf); first | exact trivial | with_reducible refine zX ?_ | refine ⟨rfl, ?_⟩ | refine ⟨_, rfl, ?_⟩ | with_reducible refine zP ?_ | with_reducible refine zL ?_ | refine ⟨fun _ => ?_, fun _ => ?_⟩ | refine zn ?_ | refine zb rfl ?_ | refine zX ?_ | refine zo rfl ?_ | refine zs ?_ | intro _)); all_goals (try (conv => whnf))
        · rename_i e
          refine bool_end ?_
          have : x ≠ y := by intro h; rw [h] at e; simp at e
          simp [hne this]
        · rename_i e
          have : x = y := pc_eq (by simpa using e)
          rw [next1 (n := ps.length) hlt (by omega)]
          exact hN (n - 1) _ (by omega) ⟨i + 1, by omega, hnx this, rfl⟩
      · have hb := lt_f (i := i) (n := (ps.map eP).length) (by simpa using hlt)
        rw [List.take_of_length_le (by omega), List.take_of_length_le (by omega)] at hI
        (repeat' ((conv => whnf); first | exact trivial | with_reducible refine zX ?_ | refine ⟨rfl, ?_⟩ | refine ⟨_, rfl, ?_⟩ | with_reducible refine zP ?_ | with_reducible refine zL ?_ | refine ⟨fun _ => ?_, fun _ => ?_⟩ | refine zn ?_ | refine zb rfl ?_ | refine zX ?_ | refine zo rfl ?_ | refine zs ?_ | intro _)); all_goals (try (conv => whnf))
        exact bool_end (by simp [hI])
  · have b2 : (((ps.map eP).length : Int) != ((qs.map eP).length : Int)) = true := by simp; omega
    have hne : ps ≠ qs := fun e => hl (by rw [e])
    refine Fn.run k63 rfl ?_
    generalize Tryz.prog = P at *
    (repeat' ((conv => whnf); first | exact trivial | with_reducible refine zX ?_ | refine ⟨rfl, ?_⟩ | refine ⟨_, rfl, ?_⟩ | with_reducible refine zP ?_ | with_reducible refine zL ?_ | refine ⟨fun _ => ?_, fun _ => ?_⟩ | refine zn ?_ | refine zb rfl ?_ | refine zX ?_ | refine zo rfl ?_ | refine zs ?_ | intro _)); all_goals (try (conv => whnf))
    exact bool_end (by simp [hne])
theorem eq37 (k1 k2 : Int) (n1 n2 : Bool) (ps qs : List Pc) (hl1 : ps.length ≤ 1000) : PureCall Tryz.prog 37 [ePl k1 n1 ps, ePl k2 n2 qs] (.p (.bool (decide (k1 = k2) && decide (ps = qs)))) := by
  have h := eqs63 n1 n2 ps qs hl1
  by_cases hk : k1 = k2
  · have b1 : (k1 == k2) = true := by simp [hk]
    rw [decide_eq_true hk, Bool.true_and]
    refine Fn.run k37 rfl ?_
    generalize Tryz.prog = P at *
    (repeat' ((conv => whnf); first | exact trivial | with_reducible refine zX ?_ | refine ⟨rfl, ?_⟩ | refine ⟨_, rfl, ?_⟩ | with_reducible refine zP ?_ | with_reducible refine zL ?_ | refine ⟨fun _ => ?_, fun _ => ?_⟩ | refine zn ?_ | refine zb rfl ?_ | refine zX ?_ | refine zo rfl ?_ | refine zs ?_ | intro _)); all_goals (try (conv => whnf))
    all_goals exact bool_end rfl
  · have b1 : (k1 == k2) = false := by simp [hk]
    rw [decide_eq_false hk, Bool.false_and]
    refine Fn.run k37 rfl ?_
    generalize Tryz.prog = P at *
    (repeat' ((conv => whnf); first | exact trivial | with_reducible refine zX ?_ | refine ⟨rfl, ?_⟩ | refine ⟨_, rfl, ?_⟩ | with_reducible refine zP ?_ | with_reducible refine zL ?_ | refine ⟨fun _ => ?_, fun _ => ?_⟩ | refine zn ?_ | refine zb rfl ?_ | refine zX ?_ | refine zo rfl ?_ | refine zs ?_ | intro _)); all_goals (try (conv => whnf))
    all_goals exact bool_end rfl
/-- A sum as the machine sums. -/
def sumW : Int → List Pc → Int
  | a, [] => a
  | a, p :: ps => sumW (IntKind.wrap .i64 (a + p.c)) ps
theorem budget35 (k : Int) (nl : Bool) (ps : List Pc) : PureCall Tryz.prog 35 [ePl k nl ps] (.p (.int .i64 (sumW 0 ps))) := by
  have hm := maxLen_eq
  refine Fn.run k35 rfl ?_
  generalize Tryz.prog = P at *
  (repeat' ((conv => whnf); first | exact trivial | with_reducible refine zX ?_ | refine ⟨rfl, ?_⟩ | refine ⟨_, rfl, ?_⟩ | with_reducible refine zP ?_ | with_reducible refine zL ?_ | refine ⟨fun _ => ?_, fun _ => ?_⟩ | refine zn ?_ | refine zb rfl ?_ | refine zX ?_ | refine zo rfl ?_ | refine zs ?_ | intro _)); all_goals (try (conv => whnf))
  rename_i hlen
  refine loop_inv (fun n s => ∃ (i : Nat) (a : Int), n + i = ps.length ∧ sumW a (ps.drop i) = sumW 0 ps ∧ s = ⟨mkT 19 [(3, .p (.int .i64 a)), (7, .p (.sl 4 nl (ps.map eP))), (8, .p (.int .i64 (ps.map eP).length)), (9, .p (.int .i64 i))], [some (bPl k nl ps), none]⟩) ps.length ?_ ?_
  · conv => whnf
    exact ⟨0, 0, rfl, rfl, rfl⟩
  · rintro n st b N ⟨i, a, hi, hI, e⟩ hN
    cases e
    by_cases hlt : i < ps.length
    · have hr1 : (ps.map eP)[i]? = some (.agg [.int .i64 ps[i].core, .int .i64 ps[i].off, .int .i64 ps[i].len, .int .i64 ps[i].c]) := by simp [hlt, eP]
      have hb := lt_t (n := (ps.map eP).length) (by simpa using hlt)
      rw [List.drop_eq_getElem_cons hlt] at hI
      simp only [sumW] at hI
      generalize ps[i] = x at *
      (repeat' ((conv => whnf); first | exact trivial | with_reducible refine zX ?_ | refine ⟨rfl, ?_⟩ | refine ⟨_, rfl, ?_⟩ | with_reducible refine zP ?_ | with_reducible refine zL ?_ | refine ⟨fun _ => ?_, fun _ => ?_⟩ | refine zn ?_ | refine zb rfl ?_ | refine zX ?_ | refine zo rfl ?_ | refine zs ?_ | intro _)); all_goals (try (conv => whnf))
      rw [next1 (n := (ps.map eP).length) (by simpa using hlt) hlen]
      exact hN (n - 1) _ (by omega) ⟨i + 1, _, by omega, hI, rfl⟩
    · have hb := lt_f (i := i) (n := (ps.map eP).length) (by simpa using hlt)
      rw [List.drop_of_length_le (by omega)] at hI
      (repeat' ((conv => whnf); first | exact trivial | with_reducible refine zX ?_ | refine ⟨rfl, ?_⟩ | refine ⟨_, rfl, ?_⟩ | with_reducible refine zP ?_ | with_reducible refine zL ?_ | refine ⟨fun _ => ?_, fun _ => ?_⟩ | refine zn ?_ | refine zb rfl ?_ | refine zX ?_ | refine zo rfl ?_ | refine zs ?_ | intro _)); all_goals (try (conv => whnf))
      exact int_end hI
def deadV (ps : List Pc) (i r : Int) : Int := if i < 0 then 0 else match ps[i.toNat]? with
  | some p => IntKind.wrap .i64 (IntKind.wrap .i64 (r + p.off) + p.len)
  | none => 0
theorem dead38 (k : Int) (nl : Bool) (ps : List Pc) (i r : Int) : PureCall Tryz.prog 38 [ePl k nl ps, .int .i64 i, .int .i64 r] (.p (.int .i64 (deadV ps i r))) := by
  by_cases h0 : i < 0
  · have b0 : decide (i < 0) = true := decide_eq_true h0
    have e : deadV ps i r = 0 := by unfold deadV; rw [if_pos h0]
    rw [e]
    refine Fn.run k38 rfl ?_
    generalize Tryz.prog = P at *
    (repeat' ((conv => whnf); first | exact trivial | with_reducible refine zX ?_ | refine ⟨rfl, ?_⟩ | refine ⟨_, rfl, ?_⟩ | with_reducible refine zP ?_ | with_reducible refine zL ?_ | refine ⟨fun _ => ?_, fun _ => ?_⟩ | refine zn ?_ | refine zb rfl ?_ | refine zX ?_ | refine zo rfl ?_ | refine zs ?_ | intro _)); all_goals (try (conv => whnf))
    all_goals exact int_end rfl
  · have b0 : decide (i < 0) = false := decide_eq_false h0
    by_cases hlt : i.toNat < ps.length
    · have b1 : decide (i ≥ ((ps.map eP).length : Int)) = false := decide_eq_false (by simp; omega)
      have h1 : 0 ≤ i := by omega
      have hr1 : (ps.map eP)[i.toNat]? = some (.agg [.int .i64 ps[i.toNat].core, .int .i64 ps[i.toNat].off, .int .i64 ps[i.toNat].len, .int .i64 ps[i.toNat].c]) := by simp [hlt, eP]
      have e : deadV ps i r = IntKind.wrap .i64 (IntKind.wrap .i64 (r + ps[i.toNat].off) + ps[i.toNat].len) := by unfold deadV; rw [if_neg h0]; simp [hlt]
      rw [e]
      generalize ps[i.toNat] = x at *
      refine Fn.run k38 rfl ?_
      generalize Tryz.prog = P at *
      (repeat' ((conv => whnf); first | exact trivial | with_reducible refine zX ?_ | refine ⟨rfl, ?_⟩ | refine ⟨_, rfl, ?_⟩ | with_reducible refine zP ?_ | with_reducible refine zL ?_ | refine ⟨fun _ => ?_, fun _ => ?_⟩ | refine zn ?_ | refine zb rfl ?_ | refine zX ?_ | refine zo rfl ?_ | refine zs ?_ | intro _)); all_goals (try (conv => whnf))
      all_goals exact int_end rfl
    · have b1 : decide (i ≥ ((ps.map eP).length : Int)) = true := decide_eq_true (by simp; omega)
      have e : deadV ps i r = 0 := by unfold deadV; rw [if_neg h0]; simp [List.getElem?_eq_none (show ps.length ≤ i.toNat by omega)]
      rw [e]
      refine Fn.run k38 rfl ?_
      generalize Tryz.prog = P at *
      (repeat' ((conv => whnf); first | exact trivial | with_reducible refine zX ?_ | refine ⟨rfl, ?_⟩ | refine ⟨_, rfl, ?_⟩ | with_reducible refine zP ?_ | with_reducible refine zL ?_ | refine ⟨fun _ => ?_, fun _ => ?_⟩ | refine zn ?_ | refine zb rfl ?_ | refine zX ?_ | refine zo rfl ?_ | refine zs ?_ | intro _)); all_goals (try (conv => whnf))
      all_goals exact int_end rfl
end Go.Proofs.YtkjghcbnmipgfaaGreatDoor.Vc
