/- Part of a proof over a Go program: Cm. No condition. -/
import Derived.Test.YtkjghcbnmipgfaaGreatDoorA16
import Derived.Test.YtkjghcbnmipgfaaGreatDoorA06
set_option linter.unusedSectionVars false
set_option linter.unusedSimpArgs false
set_option linter.unusedVariables false
set_option maxHeartbeats 4000000
set_option maxRecDepth 100000
namespace Go.Proofs.YtkjghcbnmipgfaaGreatDoor.Vc
open Go.RowKit Ma
def rSeen (p : Pc) : List DV := [.p (.int .i64 p.core), .p (.bool true)]
theorem find_seen (L : List Pc) (x : Int) : findM .i64 x (L.map rSeen) = if L.any (fun p => decide (p.core = x)) = true then some (some (.bool true)) else some none := by
  induction L with
  | nil => rfl
  | cons p L ih =>
    simp only [List.map_cons, rSeen, findM, List.any_cons]
    rw [if_pos trivial]
    by_cases h : p.core = x
    · simp [h]
    · rw [if_neg h]; simp only [h, decide_false, Bool.false_or]; exact ih
theorem upd_seen (L : List Pc) (x : Pc) (h : L.any (fun p => decide (p.core = x.core)) = false) : updM .i64 x.core (.bool true) (L.map rSeen) = some ((L ++ [x]).map rSeen) := by
  induction L with
  | nil => rfl
  | cons p L ih =>
    simp only [List.any_cons, Bool.or_eq_false_iff, decide_eq_false_iff_not] at h
    simp only [List.map_cons, rSeen, updM, List.cons_append]
    rw [if_pos trivial, if_neg h.1]
    rw [ih h.2]
theorem seen_plain (k : Nat) (L : List Pc) : noRefR k (L.map rSeen) = true := by
  induction L with
  | nil => rfl
  | cons p L ih => simp only [List.map_cons, noRefR, ih]; rfl
theorem test_ok {i : Ins} {s : St} {A : Prop} (h : fresh i s) (k : A) : testB (freshB i s) A := by rw [testB_eq, freshB_eq]; exact ⟨h, k⟩
theorem apart_take {ps : List Pc} {i : Nat} (hi : i < ps.length) : (ps.take (i + 1)).Pairwise (fun a b => a.core ≠ b.core) ↔ (ps.take i).Pairwise (fun a b => a.core ≠ b.core) ∧ (ps.take i).any (fun p => decide (p.core = ps[i].core)) = false := by
  rw [List.take_succ_eq_append_getElem hi, List.pairwise_append]
  simp
theorem pw_take {ps : List Pc} (h : ps.Pairwise fun a b => a.core ≠ b.core) (n : Nat) : (ps.take n).Pairwise fun a b => a.core ≠ b.core := h.sublist (List.take_sublist _ _)
theorem apart52 (c : Cf) (k : Int) (nl : Bool) (ps : List Pc) (hl1 : ps.length ≤ 1000) : PureCall Tryz.prog 52 [eCf c, ePl k nl ps] (.p (.bool (apartB c.cores ps))) := by
  have hm := maxLen_eq
  have hpc := fun p => piece71 c p
  refine Fn.run k52 rfl ?_
  generalize Tryz.prog = P at *
  (repeat' ((conv => whnf); first | exact trivial | with_reducible refine zX ?_ | refine ⟨rfl, ?_⟩ | refine ⟨_, rfl, ?_⟩ | with_reducible refine zP ?_ | with_reducible refine zL ?_ | refine ⟨fun _ => ?_, fun _ => ?_⟩ | refine zn ?_ | refine zb rfl ?_ | refine zX ?_ | refine zo rfl ?_ | refine zs ?_ | intro _)); all_goals (try (conv => whnf))
  rename_i hlen
  refine loop_inv (fun n s => ∃ (i : Nat) (rows : List (List DV)), n + i = ps.length ∧ (∀ p, p ∈ ps.take i → p.ok c.cores = true) ∧ (ps.take i).Pairwise (fun a b => a.core ≠ b.core) ∧ rows = (ps.take i).map rSeen ∧
    s = ⟨mkT 30 [(2, .addr 0 5 0 0), (5, .mh 2), (10, .p (.sl 4 nl (ps.map eP))), (11, .p (.int .i64 (ps.map eP).length)), (12, .p (.int .i64 i))], [some (bCf c true), some (bPl k nl ps), some ⟨true, 0, rows, false⟩, none]⟩) ps.length ?_ ?_
  · conv => whnf
    exact ⟨0, [], rfl, by simp, by simp, rfl, rfl⟩
  · rintro n st b N ⟨i, rows, hi, h1, h2, hrows, e⟩ hN
    cases e
    by_cases hlt : i < ps.length
    · have hr1 : (ps.map eP)[i]? = some (.agg [.int .i64 ps[i].core, .int .i64 ps[i].off, .int .i64 ps[i].len, .int .i64 ps[i].c]) := by simp [hlt, eP]
      have hb := lt_t (n := (ps.map eP).length) (by simpa using hlt)
      have hp := hpc ps[i]
      have hap := @apart_take ps i hlt
      have hfi := find_seen (ps.take i) ps[i].core
      have hup := upd_seen (ps.take i) ps[i]
      have htk := List.take_succ_eq_append_getElem hlt
      have hmem : ps[i] ∈ ps := List.getElem_mem hlt
      generalize ps[i] = x at *
      rw [← hrows] at hfi hup
      have hnr : noRefR 3 rows = true := by rw [hrows]; exact seen_plain 3 _
      (repeat' ((conv => whnf); first | exact trivial | with_reducible refine zX ?_ | refine ⟨rfl, ?_⟩ | refine ⟨_, rfl, ?_⟩ | with_reducible refine zP ?_ | with_reducible refine zL ?_ | refine ⟨fun _ => ?_, fun _ => ?_⟩ | refine zn ?_ | refine zb rfl ?_ | refine zX ?_ | refine zo rfl ?_ | refine zs ?_ | intro _)); all_goals (try (conv => whnf))
      refine test_ok ⟨by show 3 < 4; decide, rfl, by simp only [noRefB, hnr]; rfl⟩ ?_
      cases hok : x.ok c.cores with
      | false =>
        rw [hok] at hp
        have hf : apartB c.cores ps = false := Bool.eq_false_iff.2 fun e => by
          rw [apartB_iff] at e; have := e.1 x hmem; rw [hok] at this; cases this
        rw [hf]
        simp only [eCf, eP] at hp
        (repeat' ((conv => whnf); first | exact trivial | with_reducible refine zX ?_ | refine ⟨rfl, ?_⟩ | refine ⟨_, rfl, ?_⟩ | with_reducible refine zP ?_ | with_reducible refine zL ?_ | refine ⟨fun _ => ?_, fun _ => ?_⟩ | refine zn ?_ | refine zb rfl ?_ | refine zX ?_ | refine zo rfl ?_ | refine zs ?_ | intro _)); all_goals (try (conv => whnf))
        all_goals exact bool_end rfl
      | true =>
        rw [hok] at hp
        simp only [eCf, eP] at hp
        cases hany : (ps.take i).any fun p => decide (p.core = x.core) with
        | true =>
          rw [hany] at hfi hap
          rw [if_pos rfl] at hfi
          have hf : apartB c.cores ps = false := Bool.eq_false_iff.2 fun e => by
            rw [apartB_iff] at e
            have := (hap.1 (pw_take e.2 _)).2
            cases this
          rw [hf]
          (repeat' ((conv => whnf); first | exact trivial | with_reducible refine zX ?_ | refine ⟨rfl, ?_⟩ | refine ⟨_, rfl, ?_⟩ | with_reducible refine zP ?_ | with_reducible refine zL ?_ | refine ⟨fun _ => ?_, fun _ => ?_⟩ | refine zn ?_ | refine zb rfl ?_ | refine zX ?_ | refine zo rfl ?_ | refine zs ?_ | intro _)); all_goals (try (conv => whnf))
          rw [hfi]
          (repeat' ((conv => whnf); first | exact trivial | with_reducible refine zX ?_ | refine ⟨rfl, ?_⟩ | refine ⟨_, rfl, ?_⟩ | with_reducible refine zP ?_ | with_reducible refine zL ?_ | refine ⟨fun _ => ?_, fun _ => ?_⟩ | refine zn ?_ | refine zb rfl ?_ | refine zX ?_ | refine zo rfl ?_ | refine zs ?_ | intro _)); all_goals (try (conv => whnf))
          all_goals exact bool_end rfl
        | false =>
          rw [hany] at hfi hap
          rw [if_neg (by decide)] at hfi
          have hu := hup hany
          (repeat' ((conv => whnf); first | exact trivial | with_reducible refine zX ?_ | refine ⟨rfl, ?_⟩ | refine ⟨_, rfl, ?_⟩ | with_reducible refine zP ?_ | with_reducible refine zL ?_ | refine ⟨fun _ => ?_, fun _ => ?_⟩ | refine zn ?_ | refine zb rfl ?_ | refine zX ?_ | refine zo rfl ?_ | refine zs ?_ | intro _)); all_goals (try (conv => whnf))
          rw [hfi]
          (repeat' ((conv => whnf); first | exact trivial | with_reducible refine zX ?_ | refine ⟨rfl, ?_⟩ | refine ⟨_, rfl, ?_⟩ | with_reducible refine zP ?_ | with_reducible refine zL ?_ | refine ⟨fun _ => ?_, fun _ => ?_⟩ | refine zn ?_ | refine zb rfl ?_ | refine zX ?_ | refine zo rfl ?_ | refine zs ?_ | intro _)); all_goals (try (conv => whnf))
          rw [hu]
          (repeat' ((conv => whnf); first | exact trivial | with_reducible refine zX ?_ | refine ⟨rfl, ?_⟩ | refine ⟨_, rfl, ?_⟩ | with_reducible refine zP ?_ | with_reducible refine zL ?_ | refine ⟨fun _ => ?_, fun _ => ?_⟩ | refine zn ?_ | refine zb rfl ?_ | refine zX ?_ | refine zo rfl ?_ | refine zs ?_ | intro _)); all_goals (try (conv => whnf))
          rw [next1 (n := (ps.map eP).length) (by simpa using hlt) hlen]
          refine hN (n - 1) _ (by omega) ⟨i + 1, _, by omega, fun p hp => ?_, hap.2 ⟨h2, rfl⟩, by rw [htk], rfl⟩
          rw [htk] at hp
          rcases List.mem_append.1 hp with hp | hp
          · exact h1 p hp
          · simp only [List.mem_singleton] at hp; subst hp; exact hok
    · have hb := lt_f (i := i) (n := (ps.map eP).length) (by simpa using hlt)
      rw [List.take_of_length_le (by omega)] at h1 h2
      have hf : apartB c.cores ps = true := apartB_iff.2 ⟨h1, h2⟩
      rw [hf]
      (repeat' ((conv => whnf); first | exact trivial | with_reducible refine zX ?_ | refine ⟨rfl, ?_⟩ | refine ⟨_, rfl, ?_⟩ | with_reducible refine zP ?_ | with_reducible refine zL ?_ | refine ⟨fun _ => ?_, fun _ => ?_⟩ | refine zn ?_ | refine zb rfl ?_ | refine zX ?_ | refine zo rfl ?_ | refine zs ?_ | intro _)); all_goals (try (conv => whnf))
      exact bool_end rfl
theorem sumW_eq : ∀ (ps : List Pc) (a : Int), 0 ≤ a → (∀ p, p ∈ ps → 0 ≤ p.c ∧ p.c ≤ 200) → a + 200 * ps.length ≤ 1000000 → sumW a ps = a + sumC ps := by
  intro ps
  induction ps with
  | nil => intro a _ _ _; simp [sumW, sumC]
  | cons p ps ih =>
    intro a h0 h1 h2
    have hp := h1 p (by simp)
    simp only [List.length_cons] at h2
    simp only [sumW, sumC]
    rw [wrapE (by omega) (by omega), ih (a + p.c) (by omega) (fun q hq => h1 q (by simp [hq])) (by omega)]
    omega
theorem sumW_ok {cores : Int} {ps : List Pc} (hok : ∀ p, p ∈ ps → p.ok cores = true) (hl : ps.length ≤ 1000) : sumW 0 ps = sumC ps := by
  rw [sumW_eq ps 0 (Int.le_refl _) (fun p hp => by have := Pc.ok_iff.1 (hok p hp); omega) (by omega)]; omega
theorem chain_take {lag move : Int} {ps : List Pc} (h : chain lag move ps) (n : Nat) : chain lag move (ps.take n) := by
  suffices ∀ (k n : Nat), ps.length = n + k → chain lag move (ps.take n) by
    by_cases hn : n ≤ ps.length
    · exact this (ps.length - n) n (by omega)
    · rw [List.take_of_length_le (by omega)]; exact h
  intro k
  induction k with
  | zero => intro n hn; rw [List.take_of_length_le (by omega)]; exact h
  | succ k ih =>
    intro n hn
    have h1 := ih (n + 1) (by omega)
    rw [List.take_succ_eq_append_getElem (by omega), chain_snoc] at h1
    exact h1.1
theorem chain_next {lag move : Int} {ps : List Pc} {i : Nat} (hi : i + 1 < ps.length) (h : chain lag move (ps.take (i + 1))) : chain lag move (ps.take (i + 2)) ↔ ps[i].off + ps[i].len + lag ≤ ps[i + 1].off ∧ move < ps[i + 1].c := by
  rw [List.take_succ_eq_append_getElem hi, chain_snoc]
  have hg : (ps.take (i + 1)).getLast? = some ps[i] := by rw [List.take_succ_eq_append_getElem (show i < ps.length by omega), List.getLast?_append]; rfl
  rw [hg]
  constructor
  · rintro ⟨_, h2⟩; exact h2 _ rfl
  · intro h2; exact ⟨h, fun p hp => by injection hp with hp; subst hp; exact h2⟩
theorem split53 (c : Cf) (hc : headR c) (t : Tk) (hC : 1 ≤ t.C ∧ t.C ≤ 200) (k : Int) (nl : Bool) (ps : List Pc) (hok : ∀ p, p ∈ ps → p.ok c.cores = true) (hl1 : ps.length ≤ 1000) :
    PureCall Tryz.prog 53 [eCf c, eT t, ePl k nl ps] (.p (.bool (splitB c.lag c.move t.C t.D t.secs.length ps))) := by
  have hm := maxLen_eq
  obtain ⟨⟨c1, c2⟩, ⟨c3, c4⟩, ⟨c5, c6⟩, c7, c8⟩ := hc
  have hbud := budget35 k nl ps
  rw [sumW_ok hok hl1] at hbud
  have hsum : 0 ≤ sumC ps ∧ sumC ps ≤ 200 * ps.length := sum_bound hok
  by_cases hs : t.secs.length = 0
  case neg =>
    have b1 : decide (((t.secs.map eS).length : Int) > 0) = true := decide_eq_true (by simp; omega)
    have hf : splitB c.lag c.move t.C t.D t.secs.length ps = false := Bool.eq_false_iff.2 fun e => hs (splitB_iff.1 e).sec
    rw [hf]
    refine Fn.run k53 rfl ?_
    generalize Tryz.prog = P at *
    (repeat' ((conv => whnf); first | exact trivial | with_reducible refine zX ?_ | refine ⟨rfl, ?_⟩ | refine ⟨_, rfl, ?_⟩ | with_reducible refine zP ?_ | with_reducible refine zL ?_ | refine ⟨fun _ => ?_, fun _ => ?_⟩ | refine zn ?_ | refine zb rfl ?_ | refine zX ?_ | refine zo rfl ?_ | refine zs ?_ | intro _)); all_goals (try (conv => whnf))
    all_goals exact bool_end rfl
  have b1 : decide (((t.secs.map eS).length : Int) > 0) = false := decide_eq_false (by rw [List.length_map, hs]; omega)
  by_cases h2 : 2 ≤ ps.length
  case neg =>
    have b2 : decide (((ps.map eP).length : Int) < 2) = true := decide_eq_true (by simp; omega)
    have hf : splitB c.lag c.move t.C t.D t.secs.length ps = false := Bool.eq_false_iff.2 fun e => h2 (splitB_iff.1 e).two
    rw [hf]
    refine Fn.run k53 rfl ?_
    generalize Tryz.prog = P at *
    (repeat' ((conv => whnf); first | exact trivial | with_reducible refine zX ?_ | refine ⟨rfl, ?_⟩ | refine ⟨_, rfl, ?_⟩ | with_reducible refine zP ?_ | with_reducible refine zL ?_ | refine ⟨fun _ => ?_, fun _ => ?_⟩ | refine zn ?_ | refine zb rfl ?_ | refine zX ?_ | refine zo rfl ?_ | refine zs ?_ | intro _)); all_goals (try (conv => whnf))
    all_goals exact bool_end rfl
  have b2 : decide (((ps.map eP).length : Int) < 2) = false := decide_eq_false (by simp; omega)
  have hrow : ∀ (j : Nat) (hj : j < ps.length), (ps.map eP)[j]? = some (.agg [.int .i64 ps[j].core, .int .i64 ps[j].off, .int .i64 ps[j].len, .int .i64 ps[j].c]) := fun j hj => by simp [hj, eP]
  have hr0 := hrow 0 (by omega)
  have hfo : firstOff ps = ps[0].off := by cases ps with
    | nil => simp at h2
    | cons p ps => rfl
  by_cases h3 : ps[0].off = 0
  case neg =>
    have b3 : (ps[0].off != 0) = true := by simpa using h3
    have hf : splitB c.lag c.move t.C t.D t.secs.length ps = false := Bool.eq_false_iff.2 fun e => h3 (by rw [← hfo]; exact (splitB_iff.1 e).first)
    rw [hf]
    generalize ps[0] = x0 at *
    refine Fn.run k53 rfl ?_
    generalize Tryz.prog = P at *
    (repeat' ((conv => whnf); first | exact trivial | with_reducible refine zX ?_ | refine ⟨rfl, ?_⟩ | refine ⟨_, rfl, ?_⟩ | with_reducible refine zP ?_ | with_reducible refine zL ?_ | refine ⟨fun _ => ?_, fun _ => ?_⟩ | refine zn ?_ | refine zb rfl ?_ | refine zX ?_ | refine zo rfl ?_ | refine zs ?_ | intro _)); all_goals (try (conv => whnf))
    all_goals exact bool_end rfl
  have b3 : (ps[0].off != 0) = false := by simpa using h3
  generalize hx0 : ps[0] = x0 at *
  refine Fn.run k53 rfl ?_
  generalize Tryz.prog = P at *
  (repeat' ((conv => whnf); first | exact trivial | with_reducible refine zX ?_ | refine ⟨rfl, ?_⟩ | refine ⟨_, rfl, ?_⟩ | with_reducible refine zP ?_ | with_reducible refine zL ?_ | refine ⟨fun _ => ?_, fun _ => ?_⟩ | refine zn ?_ | refine zb rfl ?_ | refine zX ?_ | refine zo rfl ?_ | refine zs ?_ | intro _)); all_goals (try (conv => whnf))
  refine loop_inv (fun n s => ∃ i : Nat, n + i = ps.length ∧ 1 ≤ i ∧ chain c.lag c.move (ps.take i) ∧
    s = ⟨mkT 92 [(3, .addr 0 5 0 0), (4, .addr 1 4 0 0), (5, .addr 2 2 0 0), (7, .p (.int .i64 (ps.map eP).length)), (8, .p (.int .i64 i))], [some (bCf c true), some (bTk t), some (bPl k nl ps), none, none, none]⟩) (ps.length - 1) ?_ ?_
  · conv => whnf
    exact ⟨1, by omega, Nat.le_refl _, by rw [List.take_succ_eq_append_getElem (show 0 < ps.length by omega)]; trivial, rfl⟩
  · rintro n st b N ⟨i, hi, hi1, hch, e⟩ hN
    cases e
    by_cases hlt : i < ps.length
    · obtain ⟨j, rfl⟩ : ∃ j, i = j + 1 := ⟨i - 1, by omega⟩
      have hb := lt_t (n := (ps.map eP).length) (by simpa using hlt)
      have e1 : IntKind.wrap .i64 (((j + 1 : Nat) : Int) - 1) = (j : Int) := by rw [wrapE (by omega) (by omega)]; omega
      have r1 := hrow j (by omega)
      have r2 := hrow (j + 1) hlt
      have g1 : (ps.map eP)[(IntKind.wrap .i64 (((j + 1 : Nat) : Int) - 1)).toNat]? = some (.agg [.int .i64 ps[j].core, .int .i64 ps[j].off, .int .i64 ps[j].len, .int .i64 ps[j].c]) := by rw [e1]; exact r1
      have g0 : (0 : Int) ≤ IntKind.wrap .i64 (((j + 1 : Nat) : Int) - 1) := by rw [e1]; omega
      have hnx := chain_next (lag := c.lag) (move := c.move) hlt hch
      have o1 := Pc.ok_iff.1 (hok _ (List.getElem_mem (show j < ps.length by omega)))
      have o2 := Pc.ok_iff.1 (hok _ (List.getElem_mem hlt))
      have hno : ¬ (ps[j].off + ps[j].len + c.lag ≤ ps[j + 1].off ∧ c.move < ps[j + 1].c) → splitB c.lag c.move t.C t.D t.secs.length ps = false := fun hn => Bool.eq_false_iff.2 fun e => hn (hnx.1 (chain_take (splitB_iff.1 e).next _))
      have w1 : IntKind.wrap .i64 (IntKind.wrap .i64 (ps[j].off + ps[j].len) + c.lag) = ps[j].off + ps[j].len + c.lag := by rw [wrapE (n := ps[j].off + ps[j].len) (by omega) (by omega), wrapE (by omega) (by omega)]
      generalize ps[j] = x at *
      generalize ps[j + 1] = y at *
      have hstep : ∀ {s : St}, x.off + x.len + c.lag ≤ y.off ∧ c.move < y.c → s = ⟨mkT 92 [(3, .addr 0 5 0 0), (4, .addr 1 4 0 0), (5, .addr 2 2 0 0), (7, .p (.int .i64 (ps.map eP).length)), (8, .p (.int .i64 (IntKind.wrap .i64 (((j + 1 : Nat) : Int) + 1))))], [some (bCf c true), some (bTk t), some (bPl k nl ps), none, none, none]⟩ → N s := fun hk e => by
        rw [next1 (n := ps.length) hlt (by omega)] at e
        exact hN (n - 1) _ (by omega) ⟨j + 2, by omega, by omega, hnx.2 hk, e⟩
      clear hN hrow hnx
      by_cases k1 : y.off < x.off + x.len + c.lag
      · have d1 : decide (y.off < IntKind.wrap .i64 (IntKind.wrap .i64 (x.off + x.len) + c.lag)) = true := decide_eq_true (by rw [w1]; exact k1)
        rw [hno (by omega)]
        (repeat' ((conv => whnf); first | exact trivial | with_reducible refine zX ?_ | refine ⟨rfl, ?_⟩ | refine ⟨_, rfl, ?_⟩ | with_reducible refine zP ?_ | with_reducible refine zL ?_ | refine ⟨fun _ => ?_, fun _ => ?_⟩ | refine zn ?_ | refine zb rfl ?_ | refine zX ?_ | refine zo rfl ?_ | refine zs ?_ | intro _)); all_goals (try (conv => whnf))
        all_goals exact bool_end rfl
      · have d1 : decide (y.off < IntKind.wrap .i64 (IntKind.wrap .i64 (x.off + x.len) + c.lag)) = false := decide_eq_false (by rw [w1]; exact k1)
        by_cases k2 : y.c ≤ c.move
        · have d2 : decide (y.c ≤ c.move) = true := decide_eq_true k2
          rw [hno (by omega)]
          (repeat' ((conv => whnf); first | exact trivial | with_reducible refine zX ?_ | refine ⟨rfl, ?_⟩ | refine ⟨_, rfl, ?_⟩ | with_reducible refine zP ?_ | with_reducible refine zL ?_ | refine ⟨fun _ => ?_, fun _ => ?_⟩ | refine zn ?_ | refine zb rfl ?_ | refine zX ?_ | refine zo rfl ?_ | refine zs ?_ | intro _)); all_goals (try (conv => whnf))
          all_goals exact bool_end rfl
        · have d2 : decide (y.c ≤ c.move) = false := decide_eq_false k2
          (repeat' ((conv => whnf); first | exact trivial | with_reducible refine zX ?_ | refine ⟨rfl, ?_⟩ | refine ⟨_, rfl, ?_⟩ | with_reducible refine zP ?_ | with_reducible refine zL ?_ | refine ⟨fun _ => ?_, fun _ => ?_⟩ | refine zn ?_ | refine zb rfl ?_ | refine zX ?_ | refine zo rfl ?_ | refine zs ?_ | intro _)); all_goals (try (conv => whnf))
          exact hstep (by omega) rfl
    · have hb := lt_f (i := i) (n := (ps.map eP).length) (by simpa using hlt)
      have hch' : chain c.lag c.move ps := by rw [List.take_of_length_le (by omega)] at hch; exact hch
      have hil : ps.length - 1 < ps.length := by omega
      have hle := lastEnd_getElem (ps := ps) (fun e => by subst e; simp at h2) hil
      have r1 := hrow (ps.length - 1) hil
      have o1 := Pc.ok_iff.1 (hok _ (List.getElem_mem hil))
      have e1 : IntKind.wrap .i64 (((ps.map eP).length : Int) - 1) = ((ps.length - 1 : Nat) : Int) := by rw [List.length_map, wrapE (by omega) (by omega)]; omega
      have g0 : (0 : Int) ≤ IntKind.wrap .i64 (((ps.map eP).length : Int) - 1) := by rw [e1]; omega
      have g1 : (ps.map eP)[(IntKind.wrap .i64 (((ps.map eP).length : Int) - 1)).toNat]? = some (.agg [.int .i64 ps[ps.length - 1].core, .int .i64 ps[ps.length - 1].off, .int .i64 ps[ps.length - 1].len, .int .i64 ps[ps.length - 1].c]) := by rw [e1]; exact r1
      generalize ps[ps.length - 1] = z at *
      have w1 : IntKind.wrap .i64 (z.off + z.len) = lastEnd ps := by rw [wrapE (by omega) (by omega), hle]
      have hmv : 0 ≤ ((ps.length : Int) - 1) * c.move ∧ ((ps.length : Int) - 1) * c.move ≤ 5000 := by
        refine ⟨Int.mul_nonneg (by omega) c7, ?_⟩
        calc ((ps.length : Int) - 1) * c.move ≤ 1000 * 5 := Int.mul_le_mul (by omega) (by omega) (by omega) (by omega)
          _ = 5000 := by omega
      have w2 : IntKind.wrap .i64 (t.C + IntKind.wrap .i64 (IntKind.wrap .i64 (((ps.map eP).length : Int) - 1) * c.move)) = t.C + ((ps.length : Int) - 1) * c.move := by
        rw [e1, show ((ps.length - 1 : Nat) : Int) = (ps.length : Int) - 1 by omega, wrapE (n := ((ps.length : Int) - 1) * c.move) (by omega) (by omega), wrapE (by omega) (by omega)]
      have hsp : splitB c.lag c.move t.C t.D t.secs.length ps = (decide (lastEnd ps ≤ t.D) && (sumC ps == t.C + ((ps.length : Int) - 1) * c.move)) := by
        rw [Bool.eq_iff_iff, splitB_iff]
        simp only [Bool.and_eq_true, decide_eq_true_eq, beq_iff_eq]
        exact ⟨fun h => ⟨h.last, h.sum⟩, fun h => ⟨hs, h2, by rw [hfo]; exact h3, hch', h.1, h.2⟩⟩
      rw [hsp]
      clear hN hrow hsp
      by_cases k1 : lastEnd ps ≤ t.D
      · have d1 : decide (IntKind.wrap .i64 (z.off + z.len) ≤ t.D) = true := decide_eq_true (by rw [w1]; exact k1)
        rw [decide_eq_true k1, Bool.true_and]
        (repeat' ((conv => whnf); first | exact trivial | with_reducible refine zX ?_ | refine ⟨rfl, ?_⟩ | refine ⟨_, rfl, ?_⟩ | with_reducible refine zP ?_ | with_reducible refine zL ?_ | refine ⟨fun _ => ?_, fun _ => ?_⟩ | refine zn ?_ | refine zb rfl ?_ | refine zX ?_ | refine zo rfl ?_ | refine zs ?_ | intro _)); all_goals (try (conv => whnf))
        all_goals (refine bool_end ?_; rw [w2])
      · have d1 : decide (IntKind.wrap .i64 (z.off + z.len) ≤ t.D) = false := decide_eq_false (by rw [w1]; exact k1)
        rw [decide_eq_false k1, Bool.false_and]
        (repeat' ((conv => whnf); first | exact trivial | with_reducible refine zX ?_ | refine ⟨rfl, ?_⟩ | refine ⟨_, rfl, ?_⟩ | with_reducible refine zP ?_ | with_reducible refine zL ?_ | refine ⟨fun _ => ?_, fun _ => ?_⟩ | refine zn ?_ | refine zb rfl ?_ | refine zX ?_ | refine zo rfl ?_ | refine zs ?_ | intro _)); all_goals (try (conv => whnf))
        all_goals exact bool_end rfl
end Go.Proofs.YtkjghcbnmipgfaaGreatDoor.Vc
