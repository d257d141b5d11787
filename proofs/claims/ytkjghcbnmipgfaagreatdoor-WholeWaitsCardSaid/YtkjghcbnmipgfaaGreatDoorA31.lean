/- Part of a proof over a Go program: Cw. No condition. -/
import Derived.Test.YtkjghcbnmipgfaaGreatDoorA19
import Derived.Test.YtkjghcbnmipgfaaGreatDoorA17
import Derived.Test.YtkjghcbnmipgfaaGreatDoorA30
set_option linter.unusedSectionVars false
set_option linter.unusedSimpArgs false
set_option linter.unusedVariables false
set_option maxHeartbeats 4000000
set_option maxRecDepth 100000
namespace Go.Proofs.YtkjghcbnmipgfaaGreatDoor.Vc
open Go.RowKit Ma
theorem ownRows_Q (l : List Ma.Place) : ownRows (l.map eQ) = l.map rQ := by
  induction l with
  | nil => rfl
  | cons a l ih => simp only [List.map_cons, ownRows, ih]; rfl
theorem scalR_Q (l : List Ma.Place) : scalR (l.map rQ) = true := by
  induction l with
  | nil => rfl
  | cons a l ih => simp only [List.map_cons, scalR, ih]; rfl
theorem copiesR_Q (l : List Ma.Place) : copiesR (l.map rQ) = l.map rQ := by
  induction l with
  | nil => rfl
  | cons a l ih => simp only [List.map_cons, copiesR, ih]; rfl
theorem rowsP_Q (l : List Ma.Place) : rowsP true (l.map rQ) = some (l.map eQ) := by
  induction l with
  | nil => rfl
  | cons a l ih => simp only [List.map_cons, rowsP, ih]; rfl
noncomputable def mostsV (ls : LL) (w T : Int) : List Int := ls.map fun p => mostV p.2 w T w
theorem mosts_take {ls : LL} {w T : Int} {i : Nat} (h : i < ls.length) : mostsV (ls.take (i + 1)) w T = mostsV (ls.take i) w T ++ [mostV ls[i].2 w T w] := by
  unfold mostsV; rw [List.take_succ_eq_append_getElem h, List.map_append]; rfl
noncomputable def bestR (ls : LL) (w T move : Int) (n : Nat) : DV :=
  if (places move (mostsV ls w T)).length < n then .ow 2 true [] else .p (.sl 2 false ((bestV (places move (mostsV ls w T)) n).map eQ))
theorem best55 (c : Cf) (nl : Bool) (ls : LL) (h : LLok ls) (hfew : ls.length ≤ 12) (t : Tk) (n : Nat) (hn : 1 ≤ n) (w : Int) (hw : 0 ≤ w) :
    PureCall Tryz.prog 55 [eCf c, sLL nl ls, eT t, .int .i64 n, .int .i64 w] (bestR ls w t.T c.move n) := by
  have hm := maxLen_eq
  have hft := fun (p : Bool × List Ld) (hp : p ∈ ls) => fit72 p.1 p.2 (h.nils p hp) (h.len p hp) w t.T w (by omega)
  unfold bestR
  have hpl := placesFrom_length (move := c.move) (mostsV ls w t.T) 0
  have hml : (mostsV ls w t.T).length = ls.length := by simp [mostsV]
  have hbl : (bestV (places c.move (mostsV ls w t.T)) n).length = if (places c.move (mostsV ls w t.T)).length < n then 0 else n := bestV_length
  have hbd : bestV (places c.move (mostsV ls w t.T)) n = if (places c.move (mostsV ls w t.T)).length < n then [] else isort ltC ((isort ltX (places c.move (mostsV ls w t.T))).take n) := rfl
  have hpl0 : (places c.move (mostsV ls w t.T)).length ≤ 12 := by unfold places; omega
  have hLX := (isort_length ltX (places c.move (mostsV ls w t.T)))
  have h73 := byX (places c.move (mostsV ls w t.T)) hpl0 true
  have h76 := fun hle : n ≤ (places c.move (mostsV ls w t.T)).length => byC ((isort ltX (places c.move (mostsV ls w t.T))).take n) (by rw [List.length_take]; omega) true
  rw [List.length_take, hLX, List.map_take] at h76
  generalize hR : (if (places c.move (mostsV ls w t.T)).length < n then DV.ow 2 true [] else .p (.sl 2 false ((bestV (places c.move (mostsV ls w t.T)) n).map eQ))) = R
  refine Fn.run k55 (by rw [← hR]; split <;> rfl) ?_
  generalize Tryz.prog = P at *
  (repeat' ((conv => whnf); first | exact trivial | with_reducible refine zX ?_ | refine ⟨rfl, ?_⟩ | refine ⟨_, rfl, ?_⟩ | with_reducible refine zP ?_ | with_reducible refine zL ?_ | refine ⟨fun _ => ?_, fun _ => ?_⟩ | refine zn ?_ | refine zb rfl ?_ | refine zX ?_ | refine zo rfl ?_ | refine zs ?_ | intro _)); all_goals (try (conv => whnf))
  rename_i hlen
  refine loop_inv (fun m s => ∃ (i : Nat) (b : Bool), m + i = ls.length ∧ s = ⟨mkT 51 [(3, .p (.int .i64 n)), (4, .p (.int .i64 w)), (5, .addr 0 5 0 0), (7, .addr 1 4 0 0), (11, .ow 2 b ((places c.move (mostsV (ls.take i) w t.T)).map eQ)), (15, .p (sLL nl ls)), (16, .p (.int .i64 (ls.map eC).length)), (17, .p (.int .i64 i))], [some (bCf c true), some (bTk t), none]⟩) ls.length ?_ ?_
  · conv => whnf
    exact ⟨0, true, rfl, rfl⟩
  · rintro m st bb N ⟨i, b, hi, e⟩ hN
    cases e
    by_cases hil : i < ls.length
    · have hrow : (ls.map eC)[i]? = some (sL ls[i].1 ls[i].2) := by simp [hil, eC]
      have hb := lt_t (n := (ls.map eC).length) (by simpa using hil)
      have hc := hft ls[i] (List.getElem_mem _)
      have hpt := placesFrom_append (move := c.move) (mostsV (ls.take i) w t.T) (mostV ls[i].2 w t.T w) 0
      rw [← mosts_take hil] at hpt
      have hml2 : (mostsV (ls.take i) w t.T).length = i := by simp [mostsV]; omega
      have hpl2 := placesFrom_length (move := c.move) (mostsV (ls.take i) w t.T) 0
      rw [hml2, Int.zero_add] at hpt
      rw [hml2] at hpl2
      have hstep : ∀ {s : St} (b2 : Bool), s = ⟨mkT 51 [(3, .p (.int .i64 n)), (4, .p (.int .i64 w)), (5, .addr 0 5 0 0), (7, .addr 1 4 0 0), (11, .ow 2 b2 ((places c.move (mostsV (ls.take (i + 1)) w t.T)).map eQ)), (15, .p (sLL nl ls)), (16, .p (.int .i64 (ls.map eC).length)), (17, .p (.int .i64 (IntKind.wrap .i64 ((i : Int) + 1))))], [some (bCf c true), some (bTk t), none]⟩ → N s := fun b2 e => by
        rw [next1 (n := ls.length) hil (by omega)] at e
        exact hN (m - 1) _ (by omega) ⟨i + 1, b2, by omega, e⟩
      clear hN hft h73 h76 hLX hbd hbl hpl0 hR
      unfold places at *
      generalize placesFrom c.move 0 (mostsV (ls.take (i + 1)) w t.T) = L2 at *
      generalize placesFrom c.move 0 (mostsV (ls.take i) w t.T) = L1 at *
      generalize ls[i] = p at *
      generalize mostV p.2 w t.T w = v at *
      by_cases hv : c.move < v
      · have d1 : decide (v > c.move) = true := decide_eq_true hv
        rw [if_pos hv] at hpt
        (repeat' ((conv => whnf); first | exact trivial | with_reducible refine zX ?_ | refine ⟨rfl, ?_⟩ | refine ⟨_, rfl, ?_⟩ | with_reducible refine zP ?_ | with_reducible refine zL ?_ | refine ⟨fun _ => ?_, fun _ => ?_⟩ | refine zn ?_ | refine zb rfl ?_ | refine zX ?_ | refine zo rfl ?_ | refine zs ?_ | intro _)); all_goals (try (conv => whnf))
        all_goals (refine hstep (b && false) ?_; rw [hpt, List.map_append]; rfl)
      · have d1 : decide (v > c.move) = false := decide_eq_false hv
        rw [if_neg hv, List.append_nil] at hpt
        (repeat' ((conv => whnf); first | exact trivial | with_reducible refine zX ?_ | refine ⟨rfl, ?_⟩ | refine ⟨_, rfl, ?_⟩ | with_reducible refine zP ?_ | with_reducible refine zL ?_ | refine ⟨fun _ => ?_, fun _ => ?_⟩ | refine zn ?_ | refine zb rfl ?_ | refine zX ?_ | refine zo rfl ?_ | refine zs ?_ | intro _)); all_goals (try (conv => whnf))
        all_goals (refine hstep b ?_; rw [hpt]; rfl)
    · have hb := lt_f (i := i) (n := (ls.map eC).length) (by simpa using hil)
      rw [List.take_of_length_le (by omega)]
      clear hN hft
      generalize places c.move (mostsV ls w t.T) = L at *
      by_cases hlt : L.length < n
      · have d1 : decide (((L.map eQ).length : Int) < (n : Int)) = true := decide_eq_true (by simp; omega)
        rw [if_pos hlt] at hR
        clear h73 h76
        (repeat' ((conv => whnf); first | exact trivial | with_reducible refine zX ?_ | refine ⟨rfl, ?_⟩ | refine ⟨_, rfl, ?_⟩ | with_reducible refine zP ?_ | with_reducible refine zL ?_ | refine ⟨fun _ => ?_, fun _ => ?_⟩ | refine zn ?_ | refine zb rfl ?_ | refine zX ?_ | refine zo rfl ?_ | refine zs ?_ | intro _)); all_goals (try (conv => whnf))
        all_goals exact hR
      · have d1 : decide (((L.map eQ).length : Int) < (n : Int)) = false := decide_eq_false (by simp; omega)
        rw [if_neg hlt, hbd, if_neg hlt] at hR
        have h76 := h76 (by omega)
        rw [Nat.min_eq_left (by omega)] at h76
        have o1 : L.map eQ ≠ [] := fun e => by have := congrArg List.length e; simp at this; subst this; simp at hlt; omega
        have o2 : scalR (ownRows (L.map eQ)) = true := by rw [ownRows_Q]; exact scalR_Q L
        have o3 : allPR (ownRows (L.map eQ)) = true := by rw [ownRows_Q]; exact allPR_Q L
        have h73' : MCall P 73 2 [.bs 0 2 true 0 (L.map eQ).length, .p (.fn 74 [])] (ownRows (L.map eQ)) ((isort ltX L).map rQ) (.tup []) := by rw [ownRows_Q, List.length_map]; exact h73
        have o4 : (0 : Int) ≤ (n : Int) := by omega
        have o5 : (n : Int) ≤ (((L.map eQ).length : Nat) : Int) := by simp; omega
        have o6 : (n : Int) ≤ ((((isort ltX L).map rQ).length : Nat) : Int) := by simp; omega
        have o7 : allPR (((isort ltX L).map rQ).take (n : Int).toNat) = true := by rw [Int.toNat_natCast, ← List.map_take]; exact allPR_Q _
        have hlen2 : (isort ltC ((isort ltX L).take n)).length = n := by rw [isort_length, List.length_take]; omega
        generalize isort ltC ((isort ltX L).take n) = Q at *
        (repeat' ((conv => whnf); first | exact trivial | with_reducible refine zX ?_ | refine ⟨rfl, ?_⟩ | refine ⟨_, rfl, ?_⟩ | with_reducible refine zP ?_ | with_reducible refine zL ?_ | refine ⟨fun _ => ?_, fun _ => ?_⟩ | refine zn ?_ | refine zb rfl ?_ | refine zX ?_ | refine zo rfl ?_ | refine zs ?_ | intro _)); all_goals (try (conv => whnf))
        refine ⟨_, _, h73', ?_⟩
        (repeat' ((conv => whnf); first | exact trivial | with_reducible refine zX ?_ | refine ⟨rfl, ?_⟩ | refine ⟨_, rfl, ?_⟩ | with_reducible refine zP ?_ | with_reducible refine zL ?_ | refine ⟨fun _ => ?_, fun _ => ?_⟩ | refine zn ?_ | refine zb rfl ?_ | refine zX ?_ | refine zo rfl ?_ | refine zs ?_ | intro _)); all_goals (try (conv => whnf))
        refine ⟨_, _, h76, ?_⟩
        (repeat' ((conv => whnf); first | exact trivial | with_reducible refine zX ?_ | refine ⟨rfl, ?_⟩ | refine ⟨_, rfl, ?_⟩ | with_reducible refine zP ?_ | with_reducible refine zL ?_ | refine ⟨fun _ => ?_, fun _ => ?_⟩ | refine zn ?_ | refine zb rfl ?_ | refine zX ?_ | refine zo rfl ?_ | refine zs ?_ | intro _)); all_goals (try (conv => whnf))
        refine And.intro (show allPR (copiesR (Q.map rQ)) = true by rw [copiesR_Q]; exact allPR_Q Q) ?_
        (repeat' ((conv => whnf); first | exact trivial | with_reducible refine zX ?_ | refine ⟨rfl, ?_⟩ | refine ⟨_, rfl, ?_⟩ | with_reducible refine zP ?_ | with_reducible refine zL ?_ | refine ⟨fun _ => ?_, fun _ => ?_⟩ | refine zn ?_ | refine zb rfl ?_ | refine zX ?_ | refine zo rfl ?_ | refine zs ?_ | intro _)); all_goals (try (conv => whnf))
        all_goals exact frz_ok (frz_bs (k := 2) (size := 2) (n := (n : Int).toNat) (ag := true) (bx := ⟨false, 2, copiesR (Q.map rQ), false⟩) rfl ⟨rfl, .inl rfl, rfl, by rw [copiesR_Q, List.length_map, Int.toNat_natCast]; exact hlen2.symm⟩ (by rw [copiesR_Q]; exact rowsP_Q Q)) hR
theorem pieces54 (c : Cf) (hc : headR c) (t : Tk) (hC : 0 ≤ t.C ∧ t.C ≤ 1000) (w : Int) (hw : 0 ≤ w ∧ w ≤ 1000) (nl : Bool) (L : List Ma.Place) (hL : L.length ≤ 12) (hx : ∀ p, p ∈ L → c.move < p.x ∧ p.x ≤ 1000) :
    PureCall Tryz.prog 54 [eCf c, eT t, .int .i64 w, .sl 2 nl (L.map eQ)] (.tup [.p (.sl 4 (piecesV c.lag w c.move t.C 0 L).1.isEmpty ((piecesV c.lag w c.move t.C 0 L).1.map eP)), .p (.bool (decide ((piecesV c.lag w c.move t.C 0 L).2 = 0) && decide (1 < (piecesV c.lag w c.move t.C 0 L).1.length)))]) := by
  have hm := maxLen_eq
  obtain ⟨⟨c1, c2⟩, ⟨c3, c4⟩, ⟨c5, c6⟩, c7, c8⟩ := hc
  generalize hr : piecesV c.lag w c.move t.C 0 L = r
  have hrow : ∀ (j : Nat) (hj : j < L.length), (L.map eQ)[j]? = some (.agg [.int .i64 L[j].core, .int .i64 L[j].x]) := fun j hj => by simp [hj, eQ]
  refine Fn.run k54 rfl ?_
  generalize Tryz.prog = P
  (repeat' ((conv => whnf); first | exact trivial | with_reducible refine zX ?_ | refine ⟨rfl, ?_⟩ | refine ⟨_, rfl, ?_⟩ | with_reducible refine zP ?_ | with_reducible refine zL ?_ | refine ⟨fun _ => ?_, fun _ => ?_⟩ | refine zn ?_ | refine zb rfl ?_ | refine zX ?_ | refine zo rfl ?_ | refine zs ?_ | intro _)); all_goals (try (conv => whnf))
  rename_i hlen
  refine loop_inv (fun n s => ∃ (i : Nat) (left : Int) (acc : List Pc), n + i = L.length ∧ 0 ≤ left ∧ left ≤ t.C ∧ acc.length = i ∧ acc ++ (piecesV c.lag w c.move left i (L.drop i)).1 = r.1 ∧ (piecesV c.lag w c.move left i (L.drop i)).2 = r.2 ∧
    s = ⟨mkT 65 [(2, .p (.int .i64 w)), (4, .addr 0 5 0 0), (10, .ow 4 acc.isEmpty (acc.map eP)), (11, .p (.int .i64 left)), (18, .p (.sl 2 nl (L.map eQ))), (19, .p (.int .i64 (L.map eQ).length)), (20, .p (.int .i64 i))], [some (bCf c true), some (bTk t), none]⟩) L.length ?_ ?_
  · conv => whnf
    exact ⟨0, t.C, [], rfl, hC.1, Int.le_refl _, rfl, by rw [← hr]; rfl, by rw [← hr]; rfl, rfl⟩
  · rintro m st bb N ⟨i, left, acc, hi, hl0, hl1, hacc, hI1, hI2, e⟩ hN
    cases e
    have hemp : (acc.map eP).length = acc.length := by simp
    by_cases hil : i < L.length
    · have hb := lt_t (n := (L.map eQ).length) (by simpa using hil)
      have hr1 := hrow i hil
      obtain ⟨x1, x2⟩ := hx L[i] (List.getElem_mem hil)
      rw [List.drop_eq_getElem_cons hil] at hI1 hI2
      unfold piecesV at hI1 hI2
      by_cases hz : left = 0
      · have d1 : (left == 0) = true := by simpa using hz
        rw [if_pos hz] at hI1 hI2
        simp only [List.append_nil] at hI1
        simp only at hI2
        subst hI1
        have d2 : decide (r.2 = 0) = true := decide_eq_true (by omega)
        rw [d2]
        clear hN hrow hx
        (repeat' ((conv => whnf); first | exact trivial | with_reducible refine zX ?_ | refine ⟨rfl, ?_⟩ | refine ⟨_, rfl, ?_⟩ | with_reducible refine zP ?_ | with_reducible refine zL ?_ | refine ⟨fun _ => ?_, fun _ => ?_⟩ | refine zn ?_ | refine zb rfl ?_ | refine zX ?_ | refine zo rfl ?_ | refine zs ?_ | intro _)); all_goals (try (conv => whnf))
        rename_i hh
        have d3 : decide (((r.1.map eP).length : Int) > 1) = decide (1 < r.1.length) := by rw [List.length_map]; exact decide_eq_decide.2 (by omega)
        (repeat' ((conv => whnf); first | exact trivial | with_reducible refine zX ?_ | refine ⟨rfl, ?_⟩ | refine ⟨_, rfl, ?_⟩ | with_reducible refine zP ?_ | with_reducible refine zL ?_ | refine ⟨fun _ => ?_, fun _ => ?_⟩ | refine zn ?_ | refine zb rfl ?_ | refine zX ?_ | refine zo rfl ?_ | refine zs ?_ | intro _)); all_goals (try (conv => whnf))
        all_goals (rw [d3]; rfl)
      · have d1 : (left == 0) = false := by simpa using hz
        rw [if_neg hz] at hI1 hI2
        simp only at hI1 hI2
        generalize L[i] = p at *
        have hstep : ∀ {s : St} (mv use : Int), mv = (if (i : Int) = 0 then 0 else c.move) → use = min (p.x - mv) left → s = ⟨mkT 65 [(2, .p (.int .i64 w)), (4, .addr 0 5 0 0), (10, .ow 4 (acc.isEmpty && false) (acc.map eP ++ [.agg [.int .i64 p.core, .int .i64 (IntKind.wrap .i64 ((i : Int) * IntKind.wrap .i64 (w + c.lag))), .int .i64 w, .int .i64 (IntKind.wrap .i64 (mv + use))]])), (11, .p (.int .i64 (IntKind.wrap .i64 (left - use)))), (18, .p (.sl 2 nl (L.map eQ))), (19, .p (.int .i64 (L.map eQ).length)), (20, .p (.int .i64 (IntKind.wrap .i64 ((i : Int) + 1))))], [some (bCf c true), some (bTk t), none]⟩ → N s := fun mv use e1 e2 e => by
          have hmv : 0 ≤ mv ∧ mv ≤ c.move := by rw [e1]; split <;> omega
          have hprod : 0 ≤ (i : Int) * (w + c.lag) ∧ (i : Int) * (w + c.lag) ≤ 12 * 1005 := ⟨Int.mul_nonneg (by omega) (by omega), Int.mul_le_mul (by omega) (by omega) (by omega) (by omega)⟩
          rw [next1 (n := L.length) hil (by omega), wrapE (n := w + c.lag) (by omega) (by omega), wrapE (n := (i : Int) * (w + c.lag)) (by omega) (by omega), wrapE (n := mv + use) (by omega) (by omega), wrapE (n := left - use) (by omega) (by omega)] at e
          rw [← e1, ← e2] at hI1 hI2
          refine hN (m - 1) _ (by omega) ⟨i + 1, left - use, acc ++ [⟨p.core, (i : Int) * (w + c.lag), w, mv + use⟩], by omega, by omega, by omega, by simp [hacc], ?_, hI2, ?_⟩
          · rw [List.append_assoc]; exact hI1
          · rw [e, Bool.and_false, List.map_append]
            have : (acc ++ [⟨p.core, (i : Int) * (w + c.lag), w, mv + use⟩] : List Pc).isEmpty = false := by simp
            rw [this]; rfl
        clear hN hrow hx
        cases i with
        | zero =>
          have d2 : (((0 : Nat) : Int) == 0) = true := rfl
          have hu : (if left < IntKind.wrap .i64 (p.x - 0) then left else IntKind.wrap .i64 (p.x - 0)) = min (p.x - 0) left := by rw [wrapE (by omega) (by omega)]; omega
          (repeat' ((conv => whnf); first | exact trivial | with_reducible refine zX ?_ | refine ⟨rfl, ?_⟩ | refine ⟨_, rfl, ?_⟩ | with_reducible refine zP ?_ | with_reducible refine zL ?_ | refine ⟨fun _ => ?_, fun _ => ?_⟩ | refine zn ?_ | refine zb rfl ?_ | refine zX ?_ | refine zo rfl ?_ | refine zs ?_ | intro _)); all_goals (try (conv => whnf))
          exact hstep 0 _ rfl hu rfl
        | succ i =>
          have d2 : (((i + 1 : Nat) : Int) == 0) = false := beq_ne (by omega)
          have hu : (if left < IntKind.wrap .i64 (p.x - c.move) then left else IntKind.wrap .i64 (p.x - c.move)) = min (p.x - c.move) left := by rw [wrapE (by omega) (by omega)]; omega
          (repeat' ((conv => whnf); first | exact trivial | with_reducible refine zX ?_ | refine ⟨rfl, ?_⟩ | refine ⟨_, rfl, ?_⟩ | with_reducible refine zP ?_ | with_reducible refine zL ?_ | refine ⟨fun _ => ?_, fun _ => ?_⟩ | refine zn ?_ | refine zb rfl ?_ | refine zX ?_ | refine zo rfl ?_ | refine zs ?_ | intro _)); all_goals (try (conv => whnf))
          exact hstep c.move _ (by rw [if_neg (by omega)]) hu rfl
    · have hb := lt_f (i := i) (n := (L.map eQ).length) (by simpa using hil)
      rw [List.drop_of_length_le (by omega)] at hI1 hI2
      simp only [piecesV, List.append_nil] at hI1 hI2
      subst hI1
      subst hI2
      clear hN hrow hx
      by_cases hz : r.2 = 0
      · have d1 : (r.2 == 0) = true := by simpa using hz
        rw [decide_eq_true hz]
        (repeat' ((conv => whnf); first | exact trivial | with_reducible refine zX ?_ | refine ⟨rfl, ?_⟩ | refine ⟨_, rfl, ?_⟩ | with_reducible refine zP ?_ | with_reducible refine zL ?_ | refine ⟨fun _ => ?_, fun _ => ?_⟩ | refine zn ?_ | refine zb rfl ?_ | refine zX ?_ | refine zo rfl ?_ | refine zs ?_ | intro _)); all_goals (try (conv => whnf))
        rename_i hh
        have d3 : decide (((r.1.map eP).length : Int) > 1) = decide (1 < r.1.length) := by rw [List.length_map]; exact decide_eq_decide.2 (by omega)
        (repeat' ((conv => whnf); first | exact trivial | with_reducible refine zX ?_ | refine ⟨rfl, ?_⟩ | refine ⟨_, rfl, ?_⟩ | with_reducible refine zP ?_ | with_reducible refine zL ?_ | refine ⟨fun _ => ?_, fun _ => ?_⟩ | refine zn ?_ | refine zb rfl ?_ | refine zX ?_ | refine zo rfl ?_ | refine zs ?_ | intro _)); all_goals (try (conv => whnf))
        all_goals (rw [d3]; rfl)
      · have d1 : (r.2 == 0) = false := by simpa using hz
        rw [decide_eq_false hz]
        (repeat' ((conv => whnf); first | exact trivial | with_reducible refine zX ?_ | refine ⟨rfl, ?_⟩ | refine ⟨_, rfl, ?_⟩ | with_reducible refine zP ?_ | with_reducible refine zL ?_ | refine ⟨fun _ => ?_, fun _ => ?_⟩ | refine zn ?_ | refine zb rfl ?_ | refine zX ?_ | refine zo rfl ?_ | refine zs ?_ | intro _)); all_goals (try (conv => whnf))
        all_goals rfl
end Go.Proofs.YtkjghcbnmipgfaaGreatDoor.Vc
