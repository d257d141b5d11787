/- Part of a proof over a Go program: Cz. No condition. -/
import Derived.Test.YtkjghcbnmipgfaaGreatDoorA32
set_option linter.unusedSectionVars false
set_option linter.unusedSimpArgs false
set_option linter.unusedVariables false
set_option maxHeartbeats 4000000
set_option maxRecDepth 100000
namespace Go.Proofs.YtkjghcbnmipgfaaGreatDoor.Vc
open Go.RowKit Ma
noncomputable def zerP (c : Cf) (t : Tk) (ls : LL) : List Pc := if t.secs = [] then zeroV c.lag c.move t.C t.D t.T (ls.map (·.2)) else []
theorem getD_map {ls : LL} {a : Nat} (h : a < ls.length) : (ls.map (·.2))[a]?.getD [] = ls[a].2 := by simp [h]
theorem pair_eq {lag move C D T : Int} {ls : LL} {a b : Nat} (ha : a < ls.length) (hb : b < ls.length) (hab : a ≠ b) : pairV lag move C D T (ls.map (·.2)) a b =
    if 1 ≤ tightV ls[a].2 T (C - 1) ∧ C - tightV ls[a].2 T (C - 1) + move ≤ D - tightV ls[a].2 T (C - 1) - lag ∧ fitsB (ls[b].2 ++ [⟨C - tightV ls[a].2 T (C - 1) + move, D - tightV ls[a].2 T (C - 1) - lag, T⟩]) = true then
      [⟨a, 0, tightV ls[a].2 T (C - 1), tightV ls[a].2 T (C - 1)⟩, ⟨b, tightV ls[a].2 T (C - 1) + lag, D - tightV ls[a].2 T (C - 1) - lag, C - tightV ls[a].2 T (C - 1) + move⟩] else [] := by
  unfold pairV
  rw [if_neg hab, getD_map ha, getD_map hb]
  rfl
theorem pair_same {lag move C D T : Int} {ls : List (List Ld)} {a : Nat} : pairV lag move C D T ls a a = [] := by unfold pairV; rw [if_pos rfl]
structure Small (c : Cf) (t : Tk) : Prop where
  l : 0 ≤ c.lag ∧ c.lag ≤ 5
  m : 0 ≤ c.move ∧ c.move ≤ 5
  C : 1 ≤ t.C ∧ t.C ≤ 200
  D : 1 ≤ t.D ∧ t.D ≤ 200
theorem tight_range {l : List Ld} {T C : Int} (hC : C ≤ 200) : 0 ≤ tightV l T (C - 1) ∧ tightV l T (C - 1) ≤ 200 := by
  obtain ⟨h1, h2⟩ := tightV_bound l T (C - 1)
  by_cases h : tightV l T (C - 1) = 0
  · omega
  · have := h2 h; omega
theorem pair59 (c : Cf) (t : Tk) (hs : Small c t) (nl : Bool) (ls : LL) (h : LLok ls) (a b : Nat) (ha : a < ls.length) (hb : b < ls.length) (hab : a ≠ b) :
    PureCall Tryz.prog 59 [eCf c, sLL nl ls, eT t, .int .i64 a, .int .i64 b] (planR 3 (pairV c.lag c.move t.C t.D t.T (ls.map (·.2)) a b)) := by
  have hm := maxLen_eq
  obtain ⟨⟨l1, l2⟩, ⟨m1, m2⟩, ⟨C1, C2⟩, D1, D2⟩ := hs
  obtain ⟨x1, x2⟩ := @tight_range ls[a].2 t.T t.C C2
  have w0 : IntKind.wrap .i64 (t.C - 1) = t.C - 1 := wrapE (by omega) (by omega)
  have h79 := tight79 ls[a].1 ls[a].2 (h.nils _ (List.getElem_mem ha)) (h.len _ (List.getElem_mem ha)) t.T (t.C - 1)
  have h48 := clone48 ls[b].1 ls[b].2 (h.nils _ (List.getElem_mem hb)) (h.len _ (List.getElem_mem hb))
  have hql := h.len _ (List.getElem_mem hb)
  have h47 := fun x : Ld => fits47 false (ls[b].2 ++ [x])
  have hra : (ls.map eC)[a]? = some (sL ls[a].1 ls[a].2) := by simp [ha, eC]
  have hrb : (ls.map eC)[b]? = some (sL ls[b].1 ls[b].2) := by simp [hb, eC]
  rw [pair_eq ha hb hab]
  generalize tightV ls[a].2 t.T (t.C - 1) = x at *
  rw [← w0] at h79
  generalize ls[a] = p at *
  generalize ls[b] = q at *
  have w1 : IntKind.wrap .i64 (IntKind.wrap .i64 (t.C - x) + c.move) = t.C - x + c.move := by rw [wrapE (n := t.C - x) (by omega) (by omega), wrapE (by omega) (by omega)]
  have w2 : IntKind.wrap .i64 (IntKind.wrap .i64 (t.D - x) - c.lag) = t.D - x - c.lag := by rw [wrapE (n := t.D - x) (by omega) (by omega), wrapE (by omega) (by omega)]
  have w3 : IntKind.wrap .i64 (x + c.lag) = x + c.lag := wrapE (by omega) (by omega)
  have h47' : PureCall Tryz.prog 47 [.sl 3 (q.1 && false) (q.2.map eL ++ [.agg [.int .i64 (IntKind.wrap .i64 (IntKind.wrap .i64 (t.C - x) + c.move)), .int .i64 (IntKind.wrap .i64 (IntKind.wrap .i64 (t.D - x) - c.lag)), .int .i64 t.T]])] (.p (.bool (fitsB (q.2 ++ [⟨t.C - x + c.move, t.D - x - c.lag, t.T⟩])))) := by
    have := h47 ⟨t.C - x + c.move, t.D - x - c.lag, t.T⟩
    rw [sL, List.map_append] at this
    rw [Bool.and_false, w1, w2]
    exact this
  clear h47
  have hno : ∀ {W : List Pc}, W = [] → resOf [TV.p (.agg [.int .i64 0, .sl 4 true []]), TV.p (.bool false)] = planR 3 W := fun e => planR_none e
  by_cases k1 : x < 1
  · have d1 : decide (x < 1) = true := decide_eq_true k1
    rw [if_neg (by omega)]
    have hf := hno (W := []) rfl
    refine Fn.run k59 rfl ?_
    generalize Tryz.prog = P at *
    (repeat' ((conv => whnf); first | exact trivial | with_reducible refine zX ?_ | refine ⟨rfl, ?_⟩ | refine ⟨_, rfl, ?_⟩ | with_reducible refine zP ?_ | with_reducible refine zL ?_ | refine ⟨fun _ => ?_, fun _ => ?_⟩ | refine zn ?_ | refine zb rfl ?_ | refine zX ?_ | refine zo rfl ?_ | refine zs ?_ | intro _)); all_goals (try (conv => whnf))
    all_goals exact hf
  have d1 : decide (x < 1) = false := decide_eq_false k1
  by_cases k2 : t.C - x + c.move > t.D - x - c.lag
  · have d2 : decide (IntKind.wrap .i64 (IntKind.wrap .i64 (t.C - x) + c.move) > IntKind.wrap .i64 (IntKind.wrap .i64 (t.D - x) - c.lag)) = true := decide_eq_true (by rw [w1, w2]; exact k2)
    rw [if_neg (by omega)]
    have hf := hno (W := []) rfl
    refine Fn.run k59 rfl ?_
    generalize Tryz.prog = P at *
    (repeat' ((conv => whnf); first | exact trivial | with_reducible refine zX ?_ | refine ⟨rfl, ?_⟩ | refine ⟨_, rfl, ?_⟩ | with_reducible refine zP ?_ | with_reducible refine zL ?_ | refine ⟨fun _ => ?_, fun _ => ?_⟩ | refine zn ?_ | refine zb rfl ?_ | refine zX ?_ | refine zo rfl ?_ | refine zs ?_ | intro _)); all_goals (try (conv => whnf))
    all_goals exact hf
  have d2 : decide (IntKind.wrap .i64 (IntKind.wrap .i64 (t.C - x) + c.move) > IntKind.wrap .i64 (IntKind.wrap .i64 (t.D - x) - c.lag)) = false := decide_eq_false (by rw [w1, w2]; exact k2)
  cases k3 : fitsB (q.2 ++ [⟨t.C - x + c.move, t.D - x - c.lag, t.T⟩]) with
  | false =>
    rw [k3] at h47'
    rw [if_neg (by rintro ⟨_, _, e⟩; cases e)]
    have hf := hno (W := []) rfl
    refine Fn.run k59 rfl ?_
    generalize Tryz.prog = P at *
    (repeat' ((conv => whnf); first | exact trivial | with_reducible refine zX ?_ | refine ⟨rfl, ?_⟩ | refine ⟨_, rfl, ?_⟩ | with_reducible refine zP ?_ | with_reducible refine zL ?_ | refine ⟨fun _ => ?_, fun _ => ?_⟩ | refine zn ?_ | refine zb rfl ?_ | refine zX ?_ | refine zo rfl ?_ | refine zs ?_ | intro _)); all_goals (try (conv => whnf))
    all_goals exact hf
  | true =>
    rw [k3] at h47'
    rw [if_pos ⟨by omega, by omega, rfl⟩]
    have hf : resOf [TV.p (.agg [.int .i64 3, .sl 4 false [.agg [.int .i64 a, .int .i64 0, .int .i64 x, .int .i64 x], .agg [.int .i64 b, .int .i64 (IntKind.wrap .i64 (x + c.lag)), .int .i64 (IntKind.wrap .i64 (IntKind.wrap .i64 (t.D - x) - c.lag)), .int .i64 (IntKind.wrap .i64 (IntKind.wrap .i64 (t.C - x) + c.move))]]]), TV.p (.bool true)] =
        planR 3 [⟨a, 0, x, x⟩, ⟨b, x + c.lag, t.D - x - c.lag, t.C - x + c.move⟩] := by rw [w1, w2, w3]; rfl
    refine Fn.run k59 rfl ?_
    generalize Tryz.prog = P at *
    (repeat' ((conv => whnf); first | exact trivial | with_reducible refine zX ?_ | refine ⟨rfl, ?_⟩ | refine ⟨_, rfl, ?_⟩ | with_reducible refine zP ?_ | with_reducible refine zL ?_ | refine ⟨fun _ => ?_, fun _ => ?_⟩ | refine zn ?_ | refine zb rfl ?_ | refine zX ?_ | refine zo rfl ?_ | refine zs ?_ | intro _)); all_goals (try (conv => whnf))
    all_goals exact hf
theorem first_step {f : Nat → List Pc} {n i : Nat} (h : i < n) {R : List Pc} (hR : firstFrom f (n - i) i = R) : (f i = [] → firstFrom f (n - (i + 1)) (i + 1) = R) ∧ (f i ≠ [] → f i = R) := by
  rw [show n - i = (n - (i + 1)) + 1 by omega] at hR
  simp only [firstFrom] at hR
  exact ⟨fun e => by rw [if_pos e] at hR; exact hR, fun e => by rw [if_neg e] at hR; exact hR⟩
theorem first_end {f : Nat → List Pc} {n i : Nat} (h : ¬ i < n) {R : List Pc} (hR : firstFrom f (n - i) i = R) : R = [] := by
  rw [show n - i = 0 by omega] at hR
  exact hR.symm
theorem zero32 (c : Cf) (hc : c.ok = true) (t : Tk) (ht : t.ok c.res.length = true) (nl : Bool) (ls : LL) (h : LLok ls) (hls : (ls.length : Int) = c.cores) :
    PureCall Tryz.prog 32 [eCf c, sLL nl ls, eT t] (planR 3 (zerP c t ls)) := by
  have hm := maxLen_eq
  obtain ⟨hh, hrl⟩ := cf_head hc
  have hth := tk_head ht
  have hsl : t.secs.length ≤ 2 := hth.2.2.2.2
  have h50 := config50 c (by omega)
  have h51 := task51 c t (by omega)
  rw [hc] at h50
  rw [ht] at h51
  obtain ⟨⟨c1, c2⟩, ⟨c3, c4⟩, ⟨c5, c6⟩, c7, c8⟩ := id hh
  obtain ⟨t1, t2, t3, t4, t5⟩ := hth
  have h59 := fun (a b : Nat) ha hb hab => pair59 c t ⟨⟨c5, c6⟩, ⟨c7, c8⟩, by omega, by omega⟩ nl ls h a b ha hb hab
  simp only [eCf, eT] at h50 h51 h59
  have g1 : (((ls.map eC).length : Int) != c.cores) = false := by simp [hls]
  by_cases hs : t.secs = []
  case neg =>
    have g2 : decide (((t.secs.map eS).length : Int) > 0) = true := decide_eq_true (by have := List.length_pos_iff.2 hs; simp; omega)
    have hW : zerP c t ls = [] := by unfold zerP; rw [if_neg hs]
    have hN := planR_none (k := 3) hW
    generalize planR 3 (zerP c t ls) = R at *
    have hR : R.plain = true := by rw [← hN]; rfl
    clear h59
    refine Fn.run k32 hR ?_
    generalize Tryz.prog = P at *
    (repeat' ((conv => whnf); first | exact trivial | with_reducible refine zX ?_ | refine ⟨rfl, ?_⟩ | refine ⟨_, rfl, ?_⟩ | with_reducible refine zP ?_ | with_reducible refine zL ?_ | refine ⟨fun _ => ?_, fun _ => ?_⟩ | refine zn ?_ | refine zb rfl ?_ | refine zX ?_ | refine zo rfl ?_ | refine zs ?_ | intro _)); all_goals (try (conv => whnf))
    all_goals exact hN
  have g2 : decide (((t.secs.map eS).length : Int) > 0) = false := decide_eq_false (by rw [hs]; simp)
  have hW : zerP c t ls = zeroV c.lag c.move t.C t.D t.T (ls.map (·.2)) := by unfold zerP; rw [if_pos hs]
  unfold zeroV at hW
  rw [List.length_map] at hW
  have hnone := fun e => planR_none (k := 3) (ps := zerP c t ls) e
  have hsome := fun (L : List Pc) (e : zerP c t ls = L) (e2 : L ≠ []) => planR_some (k := 3) e (List.length_pos_iff.2 e2)
  have hR := planR_plain 3 (zerP c t ls)
  have hf0 : ∀ L : List Pc, L ≠ [] → L.isEmpty = false := fun L e => List.isEmpty_eq_false_iff.2 e
  generalize planR 3 (zerP c t ls) = R at *
  generalize zerP c t ls = W at *
  have hsame : ∀ b, pairV c.lag c.move t.C t.D t.T (ls.map (·.2)) b b = [] := fun b => pair_same
  generalize pairV c.lag c.move t.C t.D t.T (ls.map (·.2)) = f at *
  refine Fn.run k32 hR ?_
  generalize Tryz.prog = P at *
  (repeat' ((conv => whnf); first | exact trivial | with_reducible refine zX ?_ | refine ⟨rfl, ?_⟩ | refine ⟨_, rfl, ?_⟩ | with_reducible refine zP ?_ | with_reducible refine zL ?_ | refine ⟨fun _ => ?_, fun _ => ?_⟩ | refine zn ?_ | refine zb rfl ?_ | refine zX ?_ | refine zo rfl ?_ | refine zs ?_ | intro _)); all_goals (try (conv => whnf))
  rename_i hlen
  refine loop_inv (fun m s => ∃ a : Nat, m + a = ls.length ∧ firstFrom (fun a => firstFrom (f a) ls.length 0) (ls.length - a) a = W ∧
    s = ⟨mkT 62 [(1, .p (sLL nl ls)), (3, .addr 0 5 0 0), (5, .addr 1 4 0 0), (6, .addr 2 2 0 0), (36, .p (.int .i64 (ls.map eC).length)), (37, .p (.int .i64 a))], [some (bCf c true), some (bTk t), some ⟨true, 2, [[.p (.int .i64 0), .ow 4 true []]], false⟩, none]⟩) ls.length ?_ ?_
  · conv => whnf
    exact ⟨0, rfl, hW.symm, rfl⟩
  · rintro m st bb N ⟨a, hi, hI, e⟩ hN
    cases e
    by_cases hal : a < ls.length
    · have hb := lt_t (n := (ls.map eC).length) (i := a) (by simpa using hal)
      have hst := first_step hal hI
      (repeat' ((conv => whnf); first | exact trivial | with_reducible refine zX ?_ | refine ⟨rfl, ?_⟩ | refine ⟨_, rfl, ?_⟩ | with_reducible refine zP ?_ | with_reducible refine zL ?_ | refine ⟨fun _ => ?_, fun _ => ?_⟩ | refine zn ?_ | refine zb rfl ?_ | refine zX ?_ | refine zo rfl ?_ | refine zs ?_ | intro _)); all_goals (try (conv => whnf))
      refine loop_inv (fun m s => ∃ b : Nat, m + b = ls.length ∧ firstFrom (f a) (ls.length - b) b = firstFrom (f a) ls.length 0 ∧
        s = ⟨mkT 62 [(1, .p (sLL nl ls)), (3, .addr 0 5 0 0), (5, .addr 1 4 0 0), (6, .addr 2 2 0 0), (8, .p (.int .i64 a)), (36, .p (.int .i64 (ls.map eC).length)), (37, .p (.int .i64 a)), (41, .p (.int .i64 (ls.map eC).length)), (42, .p (.int .i64 b))], [some (bCf c true), some (bTk t), some ⟨true, 2, [[.p (.int .i64 0), .ow 4 true []]], false⟩, none]⟩) ls.length ?_ ?_
      · conv => whnf
        exact ⟨0, rfl, rfl, rfl⟩
      · rintro m2 st2 bb2 N2 ⟨b, hi2, hI2, e⟩ hN2
        cases e
        by_cases hbl : b < ls.length
        · have hb2 := lt_t (n := (ls.map eC).length) (i := b) (by simpa using hbl)
          have hst2 := first_step hbl hI2
          have hstep : ∀ {s : St}, f a b = [] → s = ⟨mkT 62 [(1, .p (sLL nl ls)), (3, .addr 0 5 0 0), (5, .addr 1 4 0 0), (6, .addr 2 2 0 0), (8, .p (.int .i64 a)), (36, .p (.int .i64 (ls.map eC).length)), (37, .p (.int .i64 a)), (41, .p (.int .i64 (ls.map eC).length)), (42, .p (.int .i64 (IntKind.wrap .i64 ((b : Int) + 1))))], [some (bCf c true), some (bTk t), some ⟨true, 2, [[.p (.int .i64 0), .ow 4 true []]], false⟩, none]⟩ → N2 s := fun k e => by
            rw [next1 (n := ls.length) hbl (by omega)] at e
            exact hN2 (m2 - 1) _ (by omega) ⟨b + 1, by omega, hst2.1 k, e⟩
          by_cases hab : a = b
          · have d1 : ((a : Int) == (b : Int)) = true := by simp [hab]
            have hfe : f a b = [] := by rw [hab]; exact hsame b
            clear hN hN2 h59
            (repeat' ((conv => whnf); first | exact trivial | with_reducible refine zX ?_ | refine ⟨rfl, ?_⟩ | refine ⟨_, rfl, ?_⟩ | with_reducible refine zP ?_ | with_reducible refine zL ?_ | refine ⟨fun _ => ?_, fun _ => ?_⟩ | refine zn ?_ | refine zb rfl ?_ | refine zX ?_ | refine zo rfl ?_ | refine zs ?_ | intro _)); all_goals (try (conv => whnf))
            exact hstep hfe rfl
          · have d1 : ((a : Int) == (b : Int)) = false := by simp; omega
            have hp := h59 a b hal hbl hab
            generalize hL : f a b = L at *
            unfold planR at hp
            clear hN hN2 h59
            by_cases hLe : L = []
            · rw [if_pos hLe] at hp
              simp only [ePl] at hp
              (repeat' ((conv => whnf); first | exact trivial | with_reducible refine zX ?_ | refine ⟨rfl, ?_⟩ | refine ⟨_, rfl, ?_⟩ | with_reducible refine zP ?_ | with_reducible refine zL ?_ | refine ⟨fun _ => ?_, fun _ => ?_⟩ | refine zn ?_ | refine zb rfl ?_ | refine zX ?_ | refine zo rfl ?_ | refine zs ?_ | intro _)); all_goals (try (conv => whnf))
              exact hstep hLe rfl
            · rw [if_neg hLe] at hp
              simp only [ePl] at hp
              have hfa := hst2.2 hLe
              have hWL : W = L := by
                have := hst.2 (by rw [← hfa]; exact hLe)
                rw [← this, ← hfa]
              have hfin := hsome L hWL hLe
              rw [hf0 L hLe] at hfin
              (repeat' ((conv => whnf); first | exact trivial | with_reducible refine zX ?_ | refine ⟨rfl, ?_⟩ | refine ⟨_, rfl, ?_⟩ | with_reducible refine zP ?_ | with_reducible refine zL ?_ | refine ⟨fun _ => ?_, fun _ => ?_⟩ | refine zn ?_ | refine zb rfl ?_ | refine zX ?_ | refine zo rfl ?_ | refine zs ?_ | intro _)); all_goals (try (conv => whnf))
              all_goals exact hfin
        · have hb2 := lt_f (n := (ls.map eC).length) (i := b) (by simpa using hbl)
          have hfa := first_end hbl hI2
          clear hN2 h59
          (repeat' ((conv => whnf); first | exact trivial | with_reducible refine zX ?_ | refine ⟨rfl, ?_⟩ | refine ⟨_, rfl, ?_⟩ | with_reducible refine zP ?_ | with_reducible refine zL ?_ | refine ⟨fun _ => ?_, fun _ => ?_⟩ | refine zn ?_ | refine zb rfl ?_ | refine zX ?_ | refine zo rfl ?_ | refine zs ?_ | intro _)); all_goals (try (conv => whnf))
          rw [next1 (n := ls.length) hal (by omega)]
          exact hN (m - 1) _ (by omega) ⟨a + 1, by omega, hst.1 hfa, rfl⟩
    · have hb := lt_f (n := (ls.map eC).length) (i := a) (by simpa using hal)
      have hWe := first_end hal hI
      clear hN h59
      (repeat' ((conv => whnf); first | exact trivial | with_reducible refine zX ?_ | refine ⟨rfl, ?_⟩ | refine ⟨_, rfl, ?_⟩ | with_reducible refine zP ?_ | with_reducible refine zL ?_ | refine ⟨fun _ => ?_, fun _ => ?_⟩ | refine zn ?_ | refine zb rfl ?_ | refine zX ?_ | refine zo rfl ?_ | refine zs ?_ | intro _)); all_goals (try (conv => whnf))
      all_goals exact hnone hWe
theorem zero33 (c : Cf) (hc : c.ok = true) (t : Tk) (ht : t.ok c.res.length = true) (nl : Bool) (ls : LL) (h : LLok ls) (hls : (ls.length : Int) = c.cores) :
    PureCall Tryz.prog 33 [eCf c, sLL nl ls, eT t] (planR 3 (zerP c t ls)) := by
  have hm := maxLen_eq
  obtain ⟨hh, hrl⟩ := cf_head hc
  have hth := tk_head ht
  obtain ⟨⟨c1, c2⟩, ⟨c3, c4⟩, ⟨l1, l2⟩, m1, m2⟩ := id hh
  obtain ⟨t1, t2, t3, t4, t5⟩ := hth
  have h60 := fun (p : Bool × List Ld) (hp : p ∈ ls) => tight60 p.1 p.2 (h.len p hp) t.T (t.C - 1)
  have h49 := fun (p : Bool × List Ld) (hp : p ∈ ls) (x : Ld) => with49 p.1 p.2 (h.len p hp) x
  have h34 := fun (l : List Ld) => fits34 false l
  have w0 : IntKind.wrap .i64 (t.C - 1) = t.C - 1 := wrapE (by omega) (by omega)
  have hrow : ∀ (a : Nat) (ha : a < ls.length), (ls.map eC)[a]? = some (sL ls[a].1 ls[a].2) := fun a ha => by simp [ha, eC]
  by_cases hs : t.secs = []
  case neg =>
    have g2 : (((t.secs.map eS).length : Int) == 0) = false := beq_ne (by have := List.length_pos_iff.2 hs; simp; omega)
    have g3 : decide ((0 : Int) < c.cores) = true := decide_eq_true (by omega)
    have hW : zerP c t ls = [] := by unfold zerP; rw [if_neg hs]
    have hN := planR_none (k := 3) hW
    generalize planR 3 (zerP c t ls) = R at *
    have hR : R.plain = true := by rw [← hN]; rfl
    clear h60 h49 h34
    refine Fn.run k33 hR ?_
    generalize Tryz.prog = P at *
    (repeat' ((conv => whnf); first | exact trivial | with_reducible refine zX ?_ | refine ⟨rfl, ?_⟩ | refine ⟨_, rfl, ?_⟩ | with_reducible refine zP ?_ | with_reducible refine zL ?_ | refine ⟨fun _ => ?_, fun _ => ?_⟩ | refine zn ?_ | refine zb rfl ?_ | refine zX ?_ | refine zo rfl ?_ | refine zs ?_ | intro _)); all_goals (try (conv => whnf))
    refine ⟨1, ?_⟩
    (repeat' ((conv => whnf); first | exact trivial | with_reducible refine zX ?_ | refine ⟨rfl, ?_⟩ | refine ⟨_, rfl, ?_⟩ | with_reducible refine zP ?_ | with_reducible refine zL ?_ | refine ⟨fun _ => ?_, fun _ => ?_⟩ | refine zn ?_ | refine zb rfl ?_ | refine zX ?_ | refine zo rfl ?_ | refine zs ?_ | intro _)); all_goals (try (conv => whnf))
    all_goals exact hN
  have g2 : (((t.secs.map eS).length : Int) == 0) = true := by rw [hs]; rfl
  have hW : zerP c t ls = zeroV c.lag c.move t.C t.D t.T (ls.map (·.2)) := by unfold zerP; rw [if_pos hs]
  unfold zeroV at hW
  rw [List.length_map] at hW
  have hnone := fun e => planR_none (k := 3) (ps := zerP c t ls) e
  have hsome := fun (L : List Pc) (e : zerP c t ls = L) (e2 : L ≠ []) => planR_some (k := 3) e (List.length_pos_iff.2 e2)
  have hR := planR_plain 3 (zerP c t ls)
  have hsame : ∀ b, pairV c.lag c.move t.C t.D t.T (ls.map (·.2)) b b = [] := fun b => pair_same
  have hpe := fun (a b : Nat) (ha : a < ls.length) (hb : b < ls.length) (hab : a ≠ b) => @pair_eq c.lag c.move t.C t.D t.T ls a b ha hb hab
  have hxr := fun (l : List Ld) => @tight_range l t.T t.C (by omega)
  generalize planR 3 (zerP c t ls) = R at *
  generalize zerP c t ls = W at *
  generalize pairV c.lag c.move t.C t.D t.T (ls.map (·.2)) = f at *
  refine Fn.run k33 hR ?_
  generalize Tryz.prog = P at *
  (repeat' ((conv => whnf); first | exact trivial | with_reducible refine zX ?_ | refine ⟨rfl, ?_⟩ | refine ⟨_, rfl, ?_⟩ | with_reducible refine zP ?_ | with_reducible refine zL ?_ | refine ⟨fun _ => ?_, fun _ => ?_⟩ | refine zn ?_ | refine zb rfl ?_ | refine zX ?_ | refine zo rfl ?_ | refine zs ?_ | intro _)); all_goals (try (conv => whnf))
  refine loop_inv (fun m s => ∃ a : Nat, m + a = ls.length ∧ firstFrom (fun a => firstFrom (f a) ls.length 0) (ls.length - a) a = W ∧
    s = ⟨mkT 95 [(1, .p (sLL nl ls)), (3, .addr 0 5 0 0), (5, .addr 1 4 0 0), (6, .addr 2 2 0 0), (8, .p (.int .i64 a))], [some (bCf c true), some (bTk t), some ⟨true, 2, [[.p (.int .i64 0), .ow 4 true []]], false⟩]⟩) ls.length ?_ ?_
  · conv => whnf
    exact ⟨0, rfl, hW.symm, rfl⟩
  · rintro m st bb N ⟨a, hi, hI, e⟩ hN
    cases e
    by_cases hal : a < ls.length
    · have hb : decide ((a : Int) < c.cores) = true := decide_eq_true (by omega)
      have hst := first_step hal hI
      (repeat' ((conv => whnf); first | exact trivial | with_reducible refine zX ?_ | refine ⟨rfl, ?_⟩ | refine ⟨_, rfl, ?_⟩ | with_reducible refine zP ?_ | with_reducible refine zL ?_ | refine ⟨fun _ => ?_, fun _ => ?_⟩ | refine zn ?_ | refine zb rfl ?_ | refine zX ?_ | refine zo rfl ?_ | refine zs ?_ | intro _)); all_goals (try (conv => whnf))
      refine loop_inv (fun m s => ∃ b : Nat, m + b = ls.length ∧ firstFrom (f a) (ls.length - b) b = firstFrom (f a) ls.length 0 ∧
        s = ⟨mkT 95 [(1, .p (sLL nl ls)), (3, .addr 0 5 0 0), (5, .addr 1 4 0 0), (6, .addr 2 2 0 0), (8, .p (.int .i64 a)), (9, .p (.int .i64 b))], [some (bCf c true), some (bTk t), some ⟨true, 2, [[.p (.int .i64 0), .ow 4 true []]], false⟩]⟩) ls.length ?_ ?_
      · conv => whnf
        exact ⟨0, rfl, rfl, rfl⟩
      · rintro m2 st2 bb2 N2 ⟨b, hi2, hI2, e⟩ hN2
        cases e
        by_cases hbl : b < ls.length
        · have hb2 : decide ((b : Int) < c.cores) = true := decide_eq_true (by omega)
          have hst2 := first_step hbl hI2
          have hstep : ∀ {s : St}, f a b = [] → s = ⟨mkT 95 [(1, .p (sLL nl ls)), (3, .addr 0 5 0 0), (5, .addr 1 4 0 0), (6, .addr 2 2 0 0), (8, .p (.int .i64 a)), (9, .p (.int .i64 (IntKind.wrap .i64 ((b : Int) + 1))))], [some (bCf c true), some (bTk t), some ⟨true, 2, [[.p (.int .i64 0), .ow 4 true []]], false⟩]⟩ → N2 s := fun k e => by
            rw [next1 (n := ls.length) hbl (by omega)] at e
            exact hN2 (m2 - 1) _ (by omega) ⟨b + 1, by omega, hst2.1 k, e⟩
          have hra := hrow a hal
          have hrb := hrow b hbl
          have hp60 := h60 ls[a] (List.getElem_mem hal)
          obtain ⟨x1, x2⟩ := hxr ls[a].2
          have hpe := hpe a b hal hbl
          have hp49 := h49 ls[b] (List.getElem_mem hbl)
          have hp34 := fun x => h34 (ls[b].2 ++ [x])
          clear hN hN2 h60 h49 h34 hrow hxr
          generalize hx : tightV ls[a].2 t.T (t.C - 1) = x at *
          rw [← w0] at hp60
          generalize ls[a] = p at *
          generalize ls[b] = q at *
          have v1 : IntKind.wrap .i64 (IntKind.wrap .i64 (t.C - x) + c.move) = t.C - x + c.move := by rw [wrapE (n := t.C - x) (by omega) (by omega), wrapE (by omega) (by omega)]
          have v2 : IntKind.wrap .i64 (IntKind.wrap .i64 (t.D - x) - c.lag) = t.D - x - c.lag := by rw [wrapE (n := t.D - x) (by omega) (by omega), wrapE (by omega) (by omega)]
          have v3 : IntKind.wrap .i64 (x + c.lag) = x + c.lag := wrapE (by omega) (by omega)
          by_cases hab : a = b
          · have d1 : ((a : Int) != (b : Int)) = false := by simp [hab]
            have hfe : f a b = [] := by rw [hab]; exact hsame b
            clear hp49 hp34
            (repeat' ((conv => whnf); first | exact trivial | with_reducible refine zX ?_ | refine ⟨rfl, ?_⟩ | refine ⟨_, rfl, ?_⟩ | with_reducible refine zP ?_ | with_reducible refine zL ?_ | refine ⟨fun _ => ?_, fun _ => ?_⟩ | refine zn ?_ | refine zb rfl ?_ | refine zX ?_ | refine zo rfl ?_ | refine zs ?_ | intro _)); all_goals (try (conv => whnf))
            exact hstep hfe rfl
          · have d1 : ((a : Int) != (b : Int)) = true := by simp; omega
            have hpe := hpe hab
            by_cases k1 : x ≥ 1
            case neg =>
              have d2 : decide (x ≥ 1) = false := decide_eq_false k1
              rw [if_neg (by omega)] at hpe
              clear hp49 hp34
              (repeat' ((conv => whnf); first | exact trivial | with_reducible refine zX ?_ | refine ⟨rfl, ?_⟩ | refine ⟨_, rfl, ?_⟩ | with_reducible refine zP ?_ | with_reducible refine zL ?_ | refine ⟨fun _ => ?_, fun _ => ?_⟩ | refine zn ?_ | refine zb rfl ?_ | refine zX ?_ | refine zo rfl ?_ | refine zs ?_ | intro _)); all_goals (try (conv => whnf))
              exact hstep hpe rfl
            have d2 : decide (x ≥ 1) = true := decide_eq_true k1
            by_cases k2 : t.C - x + c.move ≤ t.D - x - c.lag
            case neg =>
              have d3 : decide (IntKind.wrap .i64 (IntKind.wrap .i64 (t.C - x) + c.move) ≤ IntKind.wrap .i64 (IntKind.wrap .i64 (t.D - x) - c.lag)) = false := decide_eq_false (by rw [v1, v2]; exact k2)
              rw [if_neg (by omega)] at hpe
              clear hp49 hp34
              (repeat' ((conv => whnf); first | exact trivial | with_reducible refine zX ?_ | refine ⟨rfl, ?_⟩ | refine ⟨_, rfl, ?_⟩ | with_reducible refine zP ?_ | with_reducible refine zL ?_ | refine ⟨fun _ => ?_, fun _ => ?_⟩ | refine zn ?_ | refine zb rfl ?_ | refine zX ?_ | refine zo rfl ?_ | refine zs ?_ | intro _)); all_goals (try (conv => whnf))
              exact hstep hpe rfl
            have d3 : decide (IntKind.wrap .i64 (IntKind.wrap .i64 (t.C - x) + c.move) ≤ IntKind.wrap .i64 (IntKind.wrap .i64 (t.D - x) - c.lag)) = true := decide_eq_true (by rw [v1, v2]; exact k2)
            have hp49 := hp49 ⟨IntKind.wrap .i64 (IntKind.wrap .i64 (t.C - x) + c.move), IntKind.wrap .i64 (IntKind.wrap .i64 (t.D - x) - c.lag), t.T⟩
            have hp34 := hp34 ⟨IntKind.wrap .i64 (IntKind.wrap .i64 (t.C - x) + c.move), IntKind.wrap .i64 (IntKind.wrap .i64 (t.D - x) - c.lag), t.T⟩
            simp only [eL] at hp49
            cases k3 : fitsB (q.2 ++ [⟨t.C - x + c.move, t.D - x - c.lag, t.T⟩]) with
            | false =>
              rw [v1, v2, k3, ← v1, ← v2] at hp34
              rw [if_neg (by rintro ⟨_, _, e⟩; rw [k3] at e; cases e)] at hpe
              (repeat' ((conv => whnf); first | exact trivial | with_reducible refine zX ?_ | refine ⟨rfl, ?_⟩ | refine ⟨_, rfl, ?_⟩ | with_reducible refine zP ?_ | with_reducible refine zL ?_ | refine ⟨fun _ => ?_, fun _ => ?_⟩ | refine zn ?_ | refine zb rfl ?_ | refine zX ?_ | refine zo rfl ?_ | refine zs ?_ | intro _)); all_goals (try (conv => whnf))
              exact hstep hpe rfl
            | true =>
              rw [v1, v2, k3, ← v1, ← v2] at hp34
              rw [if_pos ⟨k1, k2, k3⟩] at hpe
              have hfa := hst2.2 (by rw [hpe]; simp)
              have hWL : W = f a b := by
                have := hst.2 (by rw [← hfa, hpe]; simp)
                rw [← this, ← hfa]
              rw [hpe] at hWL
              have hfin : resOf [TV.p (.agg [.int .i64 3, .sl 4 false [.agg [.int .i64 a, .int .i64 0, .int .i64 x, .int .i64 x], .agg [.int .i64 b, .int .i64 (IntKind.wrap .i64 (x + c.lag)), .int .i64 (IntKind.wrap .i64 (IntKind.wrap .i64 (t.D - x) - c.lag)), .int .i64 (IntKind.wrap .i64 (IntKind.wrap .i64 (t.C - x) + c.move))]]]), TV.p (.bool true)] = R := by
                rw [v1, v2, v3]; exact hsome _ hWL (by simp)
              (repeat' ((conv => whnf); first | exact trivial | with_reducible refine zX ?_ | refine ⟨rfl, ?_⟩ | refine ⟨_, rfl, ?_⟩ | with_reducible refine zP ?_ | with_reducible refine zL ?_ | refine ⟨fun _ => ?_, fun _ => ?_⟩ | refine zn ?_ | refine zb rfl ?_ | refine zX ?_ | refine zo rfl ?_ | refine zs ?_ | intro _)); all_goals (try (conv => whnf))
              all_goals exact hfin
        · have hb2 : decide ((b : Int) < c.cores) = false := decide_eq_false (by omega)
          have hfa := first_end hbl hI2
          clear hN2 h60 h49 h34 hpe hxr
          (repeat' ((conv => whnf); first | exact trivial | with_reducible refine zX ?_ | refine ⟨rfl, ?_⟩ | refine ⟨_, rfl, ?_⟩ | with_reducible refine zP ?_ | with_reducible refine zL ?_ | refine ⟨fun _ => ?_, fun _ => ?_⟩ | refine zn ?_ | refine zb rfl ?_ | refine zX ?_ | refine zo rfl ?_ | refine zs ?_ | intro _)); all_goals (try (conv => whnf))
          rw [next1 (n := ls.length) hal (by omega)]
          exact hN (m - 1) _ (by omega) ⟨a + 1, by omega, hst.1 hfa, rfl⟩
    · have hb : decide ((a : Int) < c.cores) = false := decide_eq_false (by omega)
      have hWe := first_end hal hI
      clear hN h60 h49 h34 hpe hxr
      (repeat' ((conv => whnf); first | exact trivial | with_reducible refine zX ?_ | refine ⟨rfl, ?_⟩ | refine ⟨_, rfl, ?_⟩ | with_reducible refine zP ?_ | with_reducible refine zL ?_ | refine ⟨fun _ => ?_, fun _ => ?_⟩ | refine zn ?_ | refine zb rfl ?_ | refine zX ?_ | refine zo rfl ?_ | refine zs ?_ | intro _)); all_goals (try (conv => whnf))
      all_goals exact hnone hWe
end Go.Proofs.YtkjghcbnmipgfaaGreatDoor.Vc
