/- Part of a proof over a Go program: Cy. No condition. -/
import Derived.Test.YtkjghcbnmipgfaaGreatDoorA32
set_option linter.unusedSectionVars false
set_option linter.unusedSimpArgs false
set_option linter.unusedVariables false
set_option maxHeartbeats 4000000
set_option maxRecDepth 100000
namespace Go.Proofs.YtkjghcbnmipgfaaGreatDoor.Vc
open Go.RowKit Ma
def rB (b : Bool) : List DV := [.p (.bool b)]
theorem setL_map {α β : Type} (f : α → β) (l : List α) (n : Nat) (v : α) : setL (l.map f) n (f v) = (l.set n v).map f := by
  induction l generalizing n with
  | nil => rfl
  | cons x xs ih => cases n with
    | zero => rfl
    | succ n => simp only [List.map_cons, setL, List.set_cons_succ, ih]
def eN (p : Ma.Place) : PV := .int .i64 p.core
noncomputable def coresR (xs : List Int) (move : Int) (n : Nat) : DV :=
  if (places move xs).length < n then .ow 1 true [] else .p (.sl 1 ((bestV (places move xs) n).map eN).isEmpty ((bestV (places move xs) n).map eN))
theorem replicate_map {α β : Type} (f : α → β) (n : Nat) (a : α) : (List.replicate n a).map f = List.replicate n (f a) := by simp
theorem takenTo_len (taken : List Bool) (j : Nat) : (takenTo taken j).length ≤ j := by
  induction j with
  | zero => simp [takenTo]
  | succ j ih =>
    simp only [takenTo]
    split
    · simp; omega
    · omega
theorem cores57 (nl : Bool) (xs : List Int) (hx : xs.length ≤ 12) (n : Nat) (hn : n ≤ 12) (move : Int) :
    PureCall Tryz.prog 57 [.sl 1 nl (xs.map eI), .int .i64 n, .int .i64 move] (coresR xs move n) := by
  have hm := maxLen_eq
  unfold coresR
  generalize hR : (if (places move xs).length < n then DV.ow 1 true [] else .p (.sl 1 ((bestV (places move xs) n).map eN).isEmpty ((bestV (places move xs) n).map eN))) = R
  have hrow : ∀ (j : Nat) (hj : j < xs.length), (xs.map eI)[j]? = some (.int .i64 xs[j]) := fun j hj => by simp [hj, eI]
  have g1 : (0 : Int) ≤ (xs.map eI).length := by omega
  have g2 : (((xs.map eI).length : Nat) : Int) * 1 ≤ 140737488355328 := by simp; omega
  have g3 : (((xs.map eI).length : Nat) : Int) ≤ maxLen := by simp; omega
  refine Fn.run k57 (by rw [← hR]; split <;> rfl) ?_
  generalize Tryz.prog = P
  (repeat' ((conv => whnf); first | exact trivial | with_reducible refine zX ?_ | refine ⟨rfl, ?_⟩ | refine ⟨_, rfl, ?_⟩ | with_reducible refine zP ?_ | with_reducible refine zL ?_ | refine ⟨fun _ => ?_, fun _ => ?_⟩ | refine zn ?_ | refine zb rfl ?_ | refine zX ?_ | refine zo rfl ?_ | refine zs ?_ | intro _)); all_goals (try (conv => whnf))
  refine loop_inv (fun m s => ∃ (i : Nat) (taken : List Bool), m + i = n ∧ Outer xs move i taken ∧
    s = ⟨mkT 76 [(0, .p (.sl 1 nl (xs.map eI))), (1, .p (.int .i64 n)), (2, .p (.int .i64 move)), (7, .bs 0 1 false 0 xs.length), (8, .p (.int .i64 i))], [some ⟨true, 1, taken.map rB, false⟩]⟩) n ?_ ?_
  · conv => whnf
    refine ⟨0, List.replicate xs.length false, rfl, Outer.start xs move, ?_⟩
    rw [replicate_map]
    have e : ((xs.map eI).length : Int).toNat = xs.length := by simp
    rw [e]; rfl
  · rintro m st bb N ⟨i, taken, hi, hO, e⟩ hN
    cases e
    have htl := hO.len
    have hrt : ∀ (j : Nat) (hj : j < taken.length), (taken.map rB)[0 + j]? = some [.p (.bool taken[j])] := fun j hj => by simp [hj, rB]
    by_cases hil : i < n
    · have hb : decide ((i : Int) < (n : Int)) = true := lt_t hil
      (repeat' ((conv => whnf); first | exact trivial | with_reducible refine zX ?_ | refine ⟨rfl, ?_⟩ | refine ⟨_, rfl, ?_⟩ | with_reducible refine zP ?_ | with_reducible refine zL ?_ | refine ⟨fun _ => ?_, fun _ => ?_⟩ | refine zn ?_ | refine zb rfl ?_ | refine zX ?_ | refine zo rfl ?_ | refine zs ?_ | intro _)); all_goals (try (conv => whnf))
      refine loop_inv (fun m s => ∃ (j : Nat) (k : Int), m + j = xs.length ∧ Inner xs move taken j k ∧
        s = ⟨mkT 76 [(0, .p (.sl 1 nl (xs.map eI))), (1, .p (.int .i64 n)), (2, .p (.int .i64 move)), (7, .bs 0 1 false 0 xs.length), (8, .p (.int .i64 i)), (9, .p (.int .i64 k)), (10, .p (.int .i64 j))], [some ⟨true, 1, taken.map rB, false⟩]⟩) xs.length ?_ ?_
      · conv => whnf
        exact ⟨0, -1, rfl, Inner.start xs move taken, rfl⟩
      · rintro m2 st2 bb2 N2 ⟨j, k, hj, hI, e⟩ hN2
        cases e
        by_cases hjl : j < xs.length
        · have hb2 : decide ((j : Int) < (((xs.map eI).length : Nat) : Int)) = true := lt_t (by simpa using hjl)
          have r1 := hrow j hjl
          have r2 := hrt j (by omega)
          have q1 : taken[j]? = some (taken[j]'(by omega)) := List.getElem?_eq_getElem (by omega)
          have q2 : xs[j]? = some xs[j] := List.getElem?_eq_getElem hjl
          have i1 : (j : Int) < (((xs.length) : Nat) : Int) := by omega
          have hsk := fun hn => hI.skip q1 q2 hn
          have htk := fun (e : taken[j]'(by omega) = false) => hI.take (by rw [q1, e]) q2
          have hstep : ∀ {s : St} (k : Int), Inner xs move taken (j + 1) k → s = ⟨mkT 76 [(0, .p (.sl 1 nl (xs.map eI))), (1, .p (.int .i64 n)), (2, .p (.int .i64 move)), (7, .bs 0 1 false 0 xs.length), (8, .p (.int .i64 i)), (9, .p (.int .i64 k)), (10, .p (.int .i64 (IntKind.wrap .i64 ((j : Int) + 1))))], [some ⟨true, 1, taken.map rB, false⟩]⟩ → N2 s := fun k h e => by
            rw [next1 (n := xs.length) hjl (by omega)] at e
            exact hN2 (m2 - 1) _ (by omega) ⟨j + 1, k, by omega, h, e⟩
          have hks := hI.some
          clear hN hN2
          generalize taken[j]'(by omega) = b at *
          generalize hxj : xs[j] = x at *
          cases b with
          | true =>
            have d0 : (!true) = false := rfl
            (repeat' ((conv => whnf); first | exact trivial | with_reducible refine zX ?_ | refine ⟨rfl, ?_⟩ | refine ⟨_, rfl, ?_⟩ | with_reducible refine zP ?_ | with_reducible refine zL ?_ | refine ⟨fun _ => ?_, fun _ => ?_⟩ | refine zn ?_ | refine zb rfl ?_ | refine zX ?_ | refine zo rfl ?_ | refine zs ?_ | intro _)); all_goals (try (conv => whnf))
            exact hstep k (hsk (.inl rfl)) rfl
          | false =>
            have d0 : (!false) = true := rfl
            by_cases c1 : x > move
            case neg =>
              have d1 : decide (x > move) = false := decide_eq_false c1
              (repeat' ((conv => whnf); first | exact trivial | with_reducible refine zX ?_ | refine ⟨rfl, ?_⟩ | refine ⟨_, rfl, ?_⟩ | with_reducible refine zP ?_ | with_reducible refine zL ?_ | refine ⟨fun _ => ?_, fun _ => ?_⟩ | refine zn ?_ | refine zb rfl ?_ | refine zX ?_ | refine zo rfl ?_ | refine zs ?_ | intro _)); all_goals (try (conv => whnf))
              exact hstep k (hsk (.inr (.inl (by omega)))) rfl
            have d1 : decide (x > move) = true := decide_eq_true c1
            by_cases c2 : k < 0
            · have d2 : decide (k < 0) = true := decide_eq_true c2
              (repeat' ((conv => whnf); first | exact trivial | with_reducible refine zX ?_ | refine ⟨rfl, ?_⟩ | refine ⟨_, rfl, ?_⟩ | with_reducible refine zP ?_ | with_reducible refine zL ?_ | refine ⟨fun _ => ?_, fun _ => ?_⟩ | refine zn ?_ | refine zb rfl ?_ | refine zX ?_ | refine zo rfl ?_ | refine zs ?_ | intro _)); all_goals (try (conv => whnf))
              exact hstep j (htk rfl c1 (.inl c2)) rfl
            · have d2 : decide (k < 0) = false := decide_eq_false c2
              obtain ⟨y, y1, y2, y3, y4, _⟩ := hks c2
              have hkl : k.toNat < xs.length := (List.getElem?_eq_some_iff.1 y3).1
              have r3 := hrow k.toNat hkl
              have hy : xs[k.toNat] = y := by rw [List.getElem?_eq_getElem hkl] at y3; injection y3
              rw [hy] at r3
              have i2 : (0 : Int) ≤ k := by omega
              by_cases c3 : x > y
              · have d3 : decide (x > y) = true := decide_eq_true c3
                (repeat' ((conv => whnf); first | exact trivial | with_reducible refine zX ?_ | refine ⟨rfl, ?_⟩ | refine ⟨_, rfl, ?_⟩ | with_reducible refine zP ?_ | with_reducible refine zL ?_ | refine ⟨fun _ => ?_, fun _ => ?_⟩ | refine zn ?_ | refine zb rfl ?_ | refine zX ?_ | refine zo rfl ?_ | refine zs ?_ | intro _)); all_goals (try (conv => whnf))
                exact hstep j (htk rfl c1 (.inr ⟨y, y3, by omega⟩)) rfl
              · have d3 : decide (x > y) = false := decide_eq_false c3
                (repeat' ((conv => whnf); first | exact trivial | with_reducible refine zX ?_ | refine ⟨rfl, ?_⟩ | refine ⟨_, rfl, ?_⟩ | with_reducible refine zP ?_ | with_reducible refine zL ?_ | refine ⟨fun _ => ?_, fun _ => ?_⟩ | refine zn ?_ | refine zb rfl ?_ | refine zX ?_ | refine zo rfl ?_ | refine zs ?_ | intro _)); all_goals (try (conv => whnf))
                exact hstep k (hsk (.inr (.inr ⟨c2, fun z hz => by rw [y3] at hz; injection hz with hz; omega⟩))) rfl
        · have hb2 : decide ((j : Int) < (((xs.map eI).length : Nat) : Int)) = false := lt_f (by simpa using hjl)
          have hjx : j = xs.length := by omega
          subst hjx
          clear hN2
          by_cases c1 : k < 0
          · have d1 : decide (k < 0) = true := decide_eq_true c1
            have hst := hO.stop hI c1
            rw [if_pos (by omega)] at hR
            clear hN
            (repeat' ((conv => whnf); first | exact trivial | with_reducible refine zX ?_ | refine ⟨rfl, ?_⟩ | refine ⟨_, rfl, ?_⟩ | with_reducible refine zP ?_ | with_reducible refine zL ?_ | refine ⟨fun _ => ?_, fun _ => ?_⟩ | refine zn ?_ | refine zb rfl ?_ | refine zX ?_ | refine zo rfl ?_ | refine zs ?_ | intro _)); all_goals (try (conv => whnf))
            all_goals exact hR
          · have d1 : decide (k < 0) = false := decide_eq_false c1
            obtain ⟨y, y1, y2, y3, y4, _⟩ := hI.some c1
            have hkl : k.toNat < taken.length := (List.getElem?_eq_some_iff.1 y2).1
            have r2 := hrt k.toNat hkl
            have i1 : k < (((xs.length) : Nat) : Int) := by omega
            have i2 : (0 : Int) ≤ k := by omega
            have hnx := hO.next hI c1
            have hsm := setL_map rB taken k.toNat true
            (repeat' ((conv => whnf); first | exact trivial | with_reducible refine zX ?_ | refine ⟨rfl, ?_⟩ | refine ⟨_, rfl, ?_⟩ | with_reducible refine zP ?_ | with_reducible refine zL ?_ | refine ⟨fun _ => ?_, fun _ => ?_⟩ | refine zn ?_ | refine zb rfl ?_ | refine zX ?_ | refine zo rfl ?_ | refine zs ?_ | intro _)); all_goals (try (conv => whnf))
            rw [next1 (n := n) hil (by omega)]
            refine hN (m - 1) _ (by omega) ⟨i + 1, taken.set k.toNat true, by omega, hnx, ?_⟩
            rw [← hsm, Nat.zero_add]; rfl
    · have hb : decide ((i : Int) < (n : Int)) = false := lt_f hil
      have hin : i = n := by omega
      subst hin
      have hend := hO.end
      have hle := hO.le
      rw [if_neg (by omega)] at hR
      clear hN hO
      have hmap : (bestV (places move xs) i).map eN = (takenTo taken xs.length).map eI := by rw [hend, List.map_map]; rfl
      rw [hmap] at hR
      clear hend hle hmap
      (repeat' ((conv => whnf); first | exact trivial | with_reducible refine zX ?_ | refine ⟨rfl, ?_⟩ | refine ⟨_, rfl, ?_⟩ | with_reducible refine zP ?_ | with_reducible refine zL ?_ | refine ⟨fun _ => ?_, fun _ => ?_⟩ | refine zn ?_ | refine zb rfl ?_ | refine zX ?_ | refine zo rfl ?_ | refine zs ?_ | intro _)); all_goals (try (conv => whnf))
      refine loop_inv (fun m s => ∃ (j : Nat), m + j = xs.length ∧
        s = ⟨mkT 76 [(0, .p (.sl 1 nl (xs.map eI))), (7, .bs 0 1 false 0 xs.length), (11, .ow 1 ((takenTo taken j).map eI).isEmpty ((takenTo taken j).map eI)), (12, .p (.int .i64 j))], [some ⟨true, 1, taken.map rB, false⟩]⟩) xs.length ?_ ?_
      · conv => whnf
        exact ⟨0, rfl, rfl⟩
      · rintro m2 st2 bb2 N2 ⟨j, hj, e⟩ hN2
        cases e
        by_cases hjl : j < xs.length
        · have hb2 : decide ((j : Int) < (((xs.map eI).length : Nat) : Int)) = true := lt_t (by simpa using hjl)
          have r2 := hrt j (by omega)
          have i1 : (j : Int) < (((xs.length) : Nat) : Int) := by omega
          have q1 : taken[j]? = some (taken[j]'(by omega)) := List.getElem?_eq_getElem (by omega)
          have htl2 : (takenTo taken j).length ≤ j := takenTo_len taken j
          have hstep : ∀ {s : St} (b : Bool) (l : List PV), l = (takenTo taken (j + 1)).map eI → b = l.isEmpty → s = ⟨mkT 76 [(0, .p (.sl 1 nl (xs.map eI))), (7, .bs 0 1 false 0 xs.length), (11, .ow 1 b l), (12, .p (.int .i64 (IntKind.wrap .i64 ((j : Int) + 1))))], [some ⟨true, 1, taken.map rB, false⟩]⟩ → N2 s := fun b l h1 h2 e => by
            rw [next1 (n := xs.length) hjl (by omega), h2, h1] at e
            exact hN2 (m2 - 1) _ (by omega) ⟨j + 1, by omega, e⟩
          have hto : takenTo taken (j + 1) = if taken[j]? = some true then takenTo taken j ++ [(j : Int)] else takenTo taken j := rfl
          rw [q1] at hto
          clear hN2
          generalize taken[j]'(by omega) = b at *
          cases b with
          | true =>
            rw [if_pos rfl] at hto
            (repeat' ((conv => whnf); first | exact trivial | with_reducible refine zX ?_ | refine ⟨rfl, ?_⟩ | refine ⟨_, rfl, ?_⟩ | with_reducible refine zP ?_ | with_reducible refine zL ?_ | refine ⟨fun _ => ?_, fun _ => ?_⟩ | refine zn ?_ | refine zb rfl ?_ | refine zX ?_ | refine zo rfl ?_ | refine zs ?_ | intro _)); all_goals (try (conv => whnf))
            refine hstep _ _ ?_ ?_ rfl
            · rw [hto, List.map_append]; rfl
            · simp
          | false =>
            rw [if_neg (by decide)] at hto
            (repeat' ((conv => whnf); first | exact trivial | with_reducible refine zX ?_ | refine ⟨rfl, ?_⟩ | refine ⟨_, rfl, ?_⟩ | with_reducible refine zP ?_ | with_reducible refine zL ?_ | refine ⟨fun _ => ?_, fun _ => ?_⟩ | refine zn ?_ | refine zb rfl ?_ | refine zX ?_ | refine zo rfl ?_ | refine zs ?_ | intro _)); all_goals (try (conv => whnf))
            exact hstep _ _ (by rw [hto]) rfl rfl
        · have hb2 : decide ((j : Int) < (((xs.map eI).length : Nat) : Int)) = false := lt_f (by simpa using hjl)
          have hjx : j = xs.length := by omega
          subst hjx
          clear hN2
          (repeat' ((conv => whnf); first | exact trivial | with_reducible refine zX ?_ | refine ⟨rfl, ?_⟩ | refine ⟨_, rfl, ?_⟩ | with_reducible refine zP ?_ | with_reducible refine zL ?_ | refine ⟨fun _ => ?_, fun _ => ?_⟩ | refine zn ?_ | refine zb rfl ?_ | refine zX ?_ | refine zo rfl ?_ | refine zs ?_ | intro _)); all_goals (try (conv => whnf))
          all_goals exact hR
theorem mosts_len (ls : LL) (w T : Int) : (mostsV ls w T).length = ls.length := by simp [mostsV]
theorem notEmpty {α : Type} {l : List α} (h : 1 < l.length) : l.isEmpty = false := by
  cases l with
  | nil => simp at h
  | cons a l => rfl
theorem window29 (c : Cf) (hc : c.ok = true) (t : Tk) (ht : t.ok c.res.length = true) (nl : Bool) (ls : LL) (h : LLok ls) (hls : (ls.length : Int) = c.cores) :
    PureCall Tryz.prog 29 [eCf c, sLL nl ls, eT t] (planR 2 (winP c t ls)) := by
  have hm := maxLen_eq
  obtain ⟨hh, hrl⟩ := cf_head hc
  have hth := tk_head ht
  obtain ⟨⟨c1, c2⟩, ⟨c3, c4⟩, ⟨l1, l2⟩, m1, m2⟩ := id hh
  obtain ⟨t1, t2, t3, t4, t5⟩ := hth
  have h31 := fun (n : Nat) (hn : n ≤ 12) => size31 c t n ⟨l1, l2⟩ (by omega) (by omega)
  have h56 := fun (p : Bool × List Ld) (hp : p ∈ ls) (w : Int) (hw : 0 ≤ w) => most56 p.1 p.2 (h.len p hp) w t.T w (by omega)
  have h57 := fun (b : Bool) (w : Int) (n : Nat) (hn : n ≤ 12) => cores57 b (mostsV ls w t.T) (by rw [mosts_len]; omega) n hn c.move
  simp only [eCf, eT] at h31
  have hrow : ∀ (a : Nat) (ha : a < ls.length), (ls.map eC)[a]? = some (sL ls[a].1 ls[a].2) := fun a ha => by simp [ha, eC]
  by_cases hs : t.secs = []
  case neg =>
    have g2 : (((t.secs.map eS).length : Int) == 0) = false := beq_ne (by have := List.length_pos_iff.2 hs; simp; omega)
    have hW : winP c t ls = [] := by unfold winP; rw [if_neg hs]
    have hN := planR_none (k := 2) hW
    generalize planR 2 (winP c t ls) = R at *
    have hR : R.plain = true := by rw [← hN]; rfl
    clear h31 h56 h57
    refine Fn.run k29 hR ?_
    generalize Tryz.prog = P at *
    (repeat' ((conv => whnf); first | exact trivial | with_reducible refine zX ?_ | refine ⟨rfl, ?_⟩ | refine ⟨_, rfl, ?_⟩ | with_reducible refine zP ?_ | with_reducible refine zL ?_ | refine ⟨fun _ => ?_, fun _ => ?_⟩ | refine zn ?_ | refine zb rfl ?_ | refine zX ?_ | refine zo rfl ?_ | refine zs ?_ | intro _)); all_goals (try (conv => whnf))
    refine ⟨1, ?_⟩
    (repeat' ((conv => whnf); first | exact trivial | with_reducible refine zX ?_ | refine ⟨rfl, ?_⟩ | refine ⟨_, rfl, ?_⟩ | with_reducible refine zP ?_ | with_reducible refine zL ?_ | refine ⟨fun _ => ?_, fun _ => ?_⟩ | refine zn ?_ | refine zb rfl ?_ | refine zX ?_ | refine zo rfl ?_ | refine zs ?_ | intro _)); all_goals (try (conv => whnf))
    all_goals exact hN
  have g2 : (((t.secs.map eS).length : Int) == 0) = true := by rw [hs]; rfl
  have hW : winP c t ls = windowV c.lag c.move t.C t.D t.T (ls.map (·.2)) (c.cores.toNat - 1) 2 := by unfold winP; rw [if_pos hs]
  have hnone := fun e => planR_none (k := 2) (ps := winP c t ls) e
  have hsome := fun (L : List Pc) (e : winP c t ls = L) (e2 : 1 < L.length) => planR_some (k := 2) e (by omega)
  have hR := planR_plain 2 (winP c t ls)
  generalize planR 2 (winP c t ls) = R at *
  generalize winP c t ls = W at *
  refine Fn.run k29 hR ?_
  generalize Tryz.prog = P at *
  (repeat' ((conv => whnf); first | exact trivial | with_reducible refine zX ?_ | refine ⟨rfl, ?_⟩ | refine ⟨_, rfl, ?_⟩ | with_reducible refine zP ?_ | with_reducible refine zL ?_ | refine ⟨fun _ => ?_, fun _ => ?_⟩ | refine zn ?_ | refine zb rfl ?_ | refine zX ?_ | refine zo rfl ?_ | refine zs ?_ | intro _)); all_goals (try (conv => whnf))
  refine loop_inv (fun m s => ∃ i : Nat, m + i = c.cores.toNat + 1 ∧ 2 ≤ i ∧ W = windowV c.lag c.move t.C t.D t.T (ls.map (·.2)) (c.cores.toNat + 1 - i) i ∧
    s = ⟨mkT 125 [(1, .p (sLL nl ls)), (3, .addr 0 5 0 0), (5, .addr 1 4 0 0), (6, .addr 2 2 0 0), (8, .p (.int .i64 i))], [some (bCf c true), some (bTk t), some ⟨true, 2, [[.p (.int .i64 0), .ow 4 true []]], false⟩, none]⟩) (c.cores.toNat - 1) ?_ ?_
  · conv => whnf
    exact ⟨2, by omega, Nat.le_refl _, hW, rfl⟩
  · rintro m st bb N ⟨i, hi, hi2, hI, e⟩ hN
    cases e
    by_cases hil : (i : Int) ≤ c.cores
    case neg =>
      have hb : decide ((i : Int) ≤ c.cores) = false := decide_eq_false hil
      rw [show c.cores.toNat + 1 - i = 0 by omega] at hI
      clear hN h31 h56 h57
      (repeat' ((conv => whnf); first | exact trivial | with_reducible refine zX ?_ | refine ⟨rfl, ?_⟩ | refine ⟨_, rfl, ?_⟩ | with_reducible refine zP ?_ | with_reducible refine zL ?_ | refine ⟨fun _ => ?_, fun _ => ?_⟩ | refine zn ?_ | refine zb rfl ?_ | refine zX ?_ | refine zo rfl ?_ | refine zs ?_ | intro _)); all_goals (try (conv => whnf))
      all_goals exact hnone hI
    have hb : decide ((i : Int) ≤ c.cores) = true := decide_eq_true hil
    rw [show c.cores.toNat + 1 - i = (c.cores.toNat - i) + 1 by omega] at hI
    simp only [windowV, mosts_eq] at hI
    have hsz := h31 i (by omega)
    have hbd := @sizeV_bound c.lag t.D i
    generalize sizeV t.D c.lag i = w at *
    by_cases hz : w = 0
    · have d1 : (w == 0) = true := by simpa using hz
      rw [if_pos hz] at hI
      clear hN h56 h57 h31
      (repeat' ((conv => whnf); first | exact trivial | with_reducible refine zX ?_ | refine ⟨rfl, ?_⟩ | refine ⟨_, rfl, ?_⟩ | with_reducible refine zP ?_ | with_reducible refine zL ?_ | refine ⟨fun _ => ?_, fun _ => ?_⟩ | refine zn ?_ | refine zb rfl ?_ | refine zX ?_ | refine zo rfl ?_ | refine zs ?_ | intro _)); all_goals (try (conv => whnf))
      all_goals exact hnone hI
    have d1 : (w == 0) = false := by simpa using hz
    rw [if_neg hz] at hI
    have hbd := hbd hz
    have hw2 : w ≤ 200 := by
      have : 1 * w ≤ (i : Int) * w := Int.mul_le_mul_of_nonneg_right (by omega) (by omega)
      have : 0 ≤ ((i : Int) - 1) * c.lag := Int.mul_nonneg (by omega) l1
      omega
    have h56 := fun p hp => h56 p hp w (by omega)
    have h57 := fun b => h57 b w i (by omega)
    have hx := @best_x ls w t.T c.move i m1 hw2
    have hfw := @best_few ls w t.T c.move i (by omega)
    have hbx := fun p => @bestV_x (mostsV ls w t.T) c.move i p
    have hstep : ∀ {s : St}, W = windowV c.lag c.move t.C t.D t.T (ls.map (·.2)) (c.cores.toNat - i) (i + 1) → s = ⟨mkT 125 [(1, .p (sLL nl ls)), (3, .addr 0 5 0 0), (5, .addr 1 4 0 0), (6, .addr 2 2 0 0), (8, .p (.int .i64 (IntKind.wrap .i64 ((i : Int) + 1))))], [some (bCf c true), some (bTk t), some ⟨true, 2, [[.p (.int .i64 0), .ow 4 true []]], false⟩, none]⟩ → N s := fun k e => by
      rw [next1 (n := i + 1) (by omega) (by omega)] at e
      exact hN (m - 1) _ (by omega) ⟨i + 1, by omega, by omega, by rw [show c.cores.toNat + 1 - (i + 1) = c.cores.toNat - i by omega]; exact k, e⟩
    clear hN h31
    (repeat' ((conv => whnf); first | exact trivial | with_reducible refine zX ?_ | refine ⟨rfl, ?_⟩ | refine ⟨_, rfl, ?_⟩ | with_reducible refine zP ?_ | with_reducible refine zL ?_ | refine ⟨fun _ => ?_, fun _ => ?_⟩ | refine zn ?_ | refine zb rfl ?_ | refine zX ?_ | refine zo rfl ?_ | refine zs ?_ | intro _)); all_goals (try (conv => whnf))
    refine loop_inv (fun m s => ∃ j : Nat, m + j = ls.length ∧
      s = ⟨mkT 125 [(1, .p (sLL nl ls)), (3, .addr 0 5 0 0), (5, .addr 1 4 0 0), (6, .addr 2 2 0 0), (8, .p (.int .i64 i)), (9, .p (.int .i64 w)), (10, .ow 1 ((mostsV (ls.take j) w t.T).map eI).isEmpty ((mostsV (ls.take j) w t.T).map eI)), (11, .p (.int .i64 j))], [some (bCf c true), some (bTk t), some ⟨true, 2, [[.p (.int .i64 0), .ow 4 true []]], false⟩, none]⟩) ls.length ?_ ?_
    · conv => whnf
      exact ⟨0, rfl, rfl⟩
    · rintro m2 st2 bb2 N2 ⟨j, hj, e⟩ hN2
      cases e
      by_cases hjl : j < ls.length
      · have hb2 : decide ((j : Int) < c.cores) = true := decide_eq_true (by omega)
        have r1 := hrow j hjl
        have hc56 := h56 ls[j] (List.getElem_mem hjl)
        have hmt := @mosts_take ls w t.T j hjl
        have hml := mosts_len (ls.take j) w t.T
        rw [List.length_take] at hml
        have hst2 : ∀ {s : St} (b : Bool) (l : List PV), l = (mostsV (ls.take (j + 1)) w t.T).map eI → b = l.isEmpty → s = ⟨mkT 125 [(1, .p (sLL nl ls)), (3, .addr 0 5 0 0), (5, .addr 1 4 0 0), (6, .addr 2 2 0 0), (8, .p (.int .i64 i)), (9, .p (.int .i64 w)), (10, .ow 1 b l), (11, .p (.int .i64 (IntKind.wrap .i64 ((j : Int) + 1))))], [some (bCf c true), some (bTk t), some ⟨true, 2, [[.p (.int .i64 0), .ow 4 true []]], false⟩, none]⟩ → N2 s := fun b l h1 h2 e => by
          rw [next1 (n := ls.length) hjl (by omega), h2, h1] at e
          exact hN2 (m2 - 1) _ (by omega) ⟨j + 1, by omega, e⟩
        clear hN2 hstep h56 h57
        (repeat' ((conv => whnf); first | exact trivial | with_reducible refine zX ?_ | refine ⟨rfl, ?_⟩ | refine ⟨_, rfl, ?_⟩ | with_reducible refine zP ?_ | with_reducible refine zL ?_ | refine ⟨fun _ => ?_, fun _ => ?_⟩ | refine zn ?_ | refine zb rfl ?_ | refine zX ?_ | refine zo rfl ?_ | refine zs ?_ | intro _)); all_goals (try (conv => whnf))
        refine hst2 _ _ ?_ ?_ rfl
        · rw [hmt, List.map_append]; rfl
        · simp
      · have hb2 : decide ((j : Int) < c.cores) = false := decide_eq_false (by omega)
        have htk : ls.take j = ls := List.take_of_length_le (by omega)
        rw [htk]
        clear hN2 h56
        have h57 := h57 ((mostsV ls w t.T).map eI).isEmpty
        unfold coresR at h57
        have hml := mosts_len ls w t.T
        by_cases hfew : (places c.move (mostsV ls w t.T)).length < i
        · rw [if_pos hfew] at h57
          have hbv : bestV (places c.move (mostsV ls w t.T)) i = [] := by unfold bestV; rw [if_pos hfew]
          rw [hbv, if_neg (by simp [piecesV])] at hI
          have z0 : decide ((0 : Int) < ((([] : List PV).length : Nat) : Int)) = false := rfl
          have z1 : decide (((([] : List PV).length : Nat) : Int) > 0) = false := rfl
          (repeat' ((conv => whnf); first | exact trivial | with_reducible refine zX ?_ | refine ⟨rfl, ?_⟩ | refine ⟨_, rfl, ?_⟩ | with_reducible refine zP ?_ | with_reducible refine zL ?_ | refine ⟨fun _ => ?_, fun _ => ?_⟩ | refine zn ?_ | refine zb rfl ?_ | refine zX ?_ | refine zo rfl ?_ | refine zs ?_ | intro _)); all_goals (try (conv => whnf))
          refine ⟨1, ?_⟩
          (repeat' ((conv => whnf); first | exact trivial | with_reducible refine zX ?_ | refine ⟨rfl, ?_⟩ | refine ⟨_, rfl, ?_⟩ | with_reducible refine zP ?_ | with_reducible refine zL ?_ | refine ⟨fun _ => ?_, fun _ => ?_⟩ | refine zn ?_ | refine zb rfl ?_ | refine zX ?_ | refine zo rfl ?_ | refine zs ?_ | intro _)); all_goals (try (conv => whnf))
          exact hstep hI rfl
        · rw [if_neg hfew] at h57
          have hbl := @bestV_length (places c.move (mostsV ls w t.T)) i
          rw [if_neg hfew] at hbl
          have hxrow : ∀ p, p ∈ bestV (places c.move (mostsV ls w t.T)) i → 0 ≤ p.core ∧ ((mostsV ls w t.T).map eI)[p.core.toNat]? = some (.int .i64 p.x) := fun p hp => by
            obtain ⟨e1, e2, e3⟩ := hbx p hp
            exact ⟨e1, by rw [List.getElem?_map, e2]; rfl⟩
          generalize (mostsV ls w t.T).map eI = xs at *
          generalize bestV (places c.move (mostsV ls w t.T)) i = L at *
          clear hbx hfew
          generalize hr : piecesV c.lag w c.move t.C 0 L = r at *
          have hLrow : ∀ (j : Nat) (hj : j < L.length), (L.map eN)[j]? = some (.int .i64 L[j].core) := fun j hj => by simp [hj, eN]
          (repeat' ((conv => whnf); first | exact trivial | with_reducible refine zX ?_ | refine ⟨rfl, ?_⟩ | refine ⟨_, rfl, ?_⟩ | with_reducible refine zP ?_ | with_reducible refine zL ?_ | refine ⟨fun _ => ?_, fun _ => ?_⟩ | refine zn ?_ | refine zb rfl ?_ | refine zX ?_ | refine zo rfl ?_ | refine zs ?_ | intro _)); all_goals (try (conv => whnf))
          refine loop_inv (fun n s => ∃ (j : Nat) (left : Int) (acc : List Pc) (d : DV), n + j = L.length ∧ (j = 0 → left = t.C ∧ d = .p (.sl 4 true [])) ∧ (0 < j → d = .ow 4 false (acc.map eP)) ∧ 0 ≤ left ∧ left ≤ t.C ∧ acc.length = j ∧ acc ++ (piecesV c.lag w c.move left j (L.drop j)).1 = r.1 ∧ (piecesV c.lag w c.move left j (L.drop j)).2 = r.2 ∧
            s = ⟨mkT 125 [(1, .p (sLL nl ls)), (3, .addr 0 5 0 0), (5, .addr 1 4 0 0), (6, .addr 2 2 0 0), (8, .p (.int .i64 i)), (9, .p (.int .i64 w)), (10, .ow 1 xs.isEmpty xs), (12, .p (.sl 1 (L.map eN).isEmpty (L.map eN))), (13, .p (.int .i64 left)), (14, .addr 3 2 0 0), (15, .p (.int .i64 j))], [some (bCf c true), some (bTk t), some ⟨true, 2, [[.p (.int .i64 0), .ow 4 true []]], false⟩, some ⟨true, 2, [[.p (.int .i64 2), d]], false⟩]⟩) L.length ?_ ?_
          · conv => whnf
            exact ⟨0, t.C, [], .p (.sl 4 true []), rfl, fun _ => ⟨rfl, rfl⟩, fun h => absurd h (Nat.lt_irrefl 0), by omega, Int.le_refl _, rfl, by rw [← hr]; rfl, by rw [← hr]; rfl, rfl⟩
          · rintro m3 st3 bb3 N3 ⟨j3, left, acc, d, hi3, hd0, hd1, hl0, hl1, hacc, hI1, hI2, e⟩ hN3
            cases e
            have hst3 : ∀ {s : St} (p : Ma.Place) (hp : ∃ hjl3 : j3 < L.length, L[j3] = p) (mv use : Int), left ≠ 0 → c.move < p.x ∧ p.x ≤ 1000 → mv = (if (j3 : Int) = 0 then 0 else c.move) → use = min (p.x - mv) left → s = ⟨mkT 125 [(1, .p (sLL nl ls)), (3, .addr 0 5 0 0), (5, .addr 1 4 0 0), (6, .addr 2 2 0 0), (8, .p (.int .i64 i)), (9, .p (.int .i64 w)), (10, .ow 1 xs.isEmpty xs), (12, .p (.sl 1 (L.map eN).isEmpty (L.map eN))), (13, .p (.int .i64 (IntKind.wrap .i64 (left - use)))), (14, .addr 3 2 0 0), (15, .p (.int .i64 (IntKind.wrap .i64 ((j3 : Int) + 1))))], [some (bCf c true), some (bTk t), some ⟨true, 2, [[.p (.int .i64 0), .ow 4 true []]], false⟩,
                some ⟨true, 2, [[.p (.int .i64 2), .ow 4 false (acc.map eP ++ [.agg [.int .i64 p.core, .int .i64 (IntKind.wrap .i64 ((j3 : Int) * IntKind.wrap .i64 (w + c.lag))), .int .i64 w, .int .i64 (IntKind.wrap .i64 (use + mv))]])]], false⟩]⟩ → N3 s := fun p ⟨hjl3, hp⟩ mv use hz0 ⟨x1, x2⟩ e1 e2 e => by
              have hmv : 0 ≤ mv ∧ mv ≤ c.move := by rw [e1]; split <;> omega
              have hprod : 0 ≤ (j3 : Int) * (w + c.lag) ∧ (j3 : Int) * (w + c.lag) ≤ 12 * 1005 := ⟨Int.mul_nonneg (by omega) (by omega), Int.mul_le_mul (by omega) (by omega) (by omega) (by omega)⟩
              rw [List.drop_eq_getElem_cons hjl3] at hI1 hI2
              unfold piecesV at hI1 hI2
              rw [if_neg hz0, hp] at hI1 hI2
              simp only at hI1 hI2
              rw [next1 (n := L.length) hjl3 (by omega), wrapE (n := w + c.lag) (by omega) (by omega), wrapE (n := (j3 : Int) * (w + c.lag)) (by omega) (by omega), wrapE (n := use + mv) (by omega) (by omega), wrapE (n := left - use) (by omega) (by omega), Int.add_comm use mv] at e
              rw [← e1, ← e2] at hI1 hI2
              refine hN3 (m3 - 1) _ (by omega) ⟨j3 + 1, left - use, acc ++ [⟨p.core, (j3 : Int) * (w + c.lag), w, mv + use⟩], _, by omega, fun h => by omega, fun _ => rfl, by omega, by omega, by simp [hacc], ?_, hI2, ?_⟩
              · rw [List.append_assoc]; exact hI1
              · rw [e, List.map_append]; rfl
            have hg : ∀ hjl3 : j3 < L.length, 0 ≤ L[j3].core ∧ xs[L[j3].core.toNat]? = some (.int .i64 L[j3].x) ∧ c.move < L[j3].x ∧ L[j3].x ≤ 1000 := fun hjl3 => by
              obtain ⟨e1, e2⟩ := hxrow _ (List.getElem_mem hjl3)
              obtain ⟨x1, x2⟩ := hx _ (List.getElem_mem hjl3)
              exact ⟨e1, e2, x1, x2⟩
            cases j3 with
            | zero =>
              obtain ⟨hleft, hd⟩ := hd0 rfl
              subst hd
              subst hleft
              have hjl3 : 0 < L.length := by omega
              have hb3 : decide (((0 : Nat) : Int) < (((L.map eN).length : Nat) : Int)) = true := lt_t (by simpa using hjl3)
              have d0 : decide (t.C > 0) = true := decide_eq_true (by omega)
              have r1 := hLrow 0 hjl3
              obtain ⟨e1, e2, x1, x2⟩ := hg hjl3
              have hac0 : acc = [] := List.eq_nil_of_length_eq_zero hacc
              subst hac0
              have hs3 := fun s => @hst3 s L[0] ⟨hjl3, rfl⟩
              clear hst3 hN3 hstep hLrow hxrow hx hrow hg
              generalize L[0] = p at *
              have d2 : (((0 : Nat) : Int) == 0) = true := rfl
              have hu : (if t.C < IntKind.wrap .i64 (p.x - 0) then t.C else IntKind.wrap .i64 (p.x - 0)) = min (p.x - 0) t.C := by rw [wrapE (by omega) (by omega)]; omega
              (repeat' ((conv => whnf); first | exact trivial | with_reducible refine zX ?_ | refine ⟨rfl, ?_⟩ | refine ⟨_, rfl, ?_⟩ | with_reducible refine zP ?_ | with_reducible refine zL ?_ | refine ⟨fun _ => ?_, fun _ => ?_⟩ | refine zn ?_ | refine zb rfl ?_ | refine zX ?_ | refine zo rfl ?_ | refine zs ?_ | intro _)); all_goals (try (conv => whnf))
              exact hs3 _ 0 _ (by omega) ⟨x1, x2⟩ rfl hu rfl
            | succ j3 =>
            have hd := hd1 (Nat.succ_pos _)
            subst hd
            clear hd0 hd1
            have g4 : decide (((L.map eN).length : Int) > 0) = true := decide_eq_true (by rw [List.length_map]; omega)
            have hendT : r.2 = 0 ∧ 1 < r.1.length → W = r.1 := fun e => by rw [if_pos e] at hI; exact hI
            have hendF : ¬ (r.2 = 0 ∧ 1 < r.1.length) → W = windowV c.lag c.move t.C t.D t.T (ls.map (·.2)) (c.cores.toNat - i) (i + 1) := fun e => by rw [if_neg e] at hI; exact hI
            by_cases hjl3 : j3 + 1 < L.length
            case neg =>
              have hb3 : decide (((j3 + 1 : Nat) : Int) < (((L.map eN).length : Nat) : Int)) = false := lt_f (by simpa using hjl3)
              rw [List.drop_of_length_le (by omega)] at hI1 hI2
              simp only [piecesV, List.append_nil] at hI1 hI2
              subst hI1
              subst hI2
              clear hN3
              by_cases q1 : r.2 = 0
              · have d2 : (r.2 == 0) = true := by simpa using q1
                by_cases q2 : 1 < r.1.length
                · have d3 : decide (((r.1.map eP).length : Int) > 1) = true := decide_eq_true (by rw [List.length_map]; omega)
                  have hfin := hsome _ (hendT ⟨q1, q2⟩) q2
                  rw [notEmpty q2] at hfin
                  (repeat' ((conv => whnf); first | exact trivial | with_reducible refine zX ?_ | refine ⟨rfl, ?_⟩ | refine ⟨_, rfl, ?_⟩ | with_reducible refine zP ?_ | with_reducible refine zL ?_ | refine ⟨fun _ => ?_, fun _ => ?_⟩ | refine zn ?_ | refine zb rfl ?_ | refine zX ?_ | refine zo rfl ?_ | refine zs ?_ | intro _)); all_goals (try (conv => whnf))
                  all_goals exact hfin
                · have d3 : decide (((r.1.map eP).length : Int) > 1) = false := decide_eq_false (by rw [List.length_map]; omega)
                  have hk := hendF fun h => q2 h.2
                  (repeat' ((conv => whnf); first | exact trivial | with_reducible refine zX ?_ | refine ⟨rfl, ?_⟩ | refine ⟨_, rfl, ?_⟩ | with_reducible refine zP ?_ | with_reducible refine zL ?_ | refine ⟨fun _ => ?_, fun _ => ?_⟩ | refine zn ?_ | refine zb rfl ?_ | refine zX ?_ | refine zo rfl ?_ | refine zs ?_ | intro _)); all_goals (try (conv => whnf))
                  exact hstep hk rfl
              · have d2 : (r.2 == 0) = false := by simpa using q1
                have hk := hendF fun h => q1 h.1
                (repeat' ((conv => whnf); first | exact trivial | with_reducible refine zX ?_ | refine ⟨rfl, ?_⟩ | refine ⟨_, rfl, ?_⟩ | with_reducible refine zP ?_ | with_reducible refine zL ?_ | refine ⟨fun _ => ?_, fun _ => ?_⟩ | refine zn ?_ | refine zb rfl ?_ | refine zX ?_ | refine zo rfl ?_ | refine zs ?_ | intro _)); all_goals (try (conv => whnf))
                exact hstep hk rfl
            have hb3 : decide (((j3 + 1 : Nat) : Int) < (((L.map eN).length : Nat) : Int)) = true := lt_t (by simpa using hjl3)
            rw [List.drop_eq_getElem_cons hjl3] at hI1 hI2
            unfold piecesV at hI1 hI2
            by_cases hz0 : left = 0
            · have d0 : decide (left > 0) = false := decide_eq_false (by omega)
              rw [if_pos hz0] at hI1 hI2
              simp only [List.append_nil] at hI1
              simp only at hI2
              subst hI1
              subst hz0
              have q1 : r.2 = 0 := hI2.symm
              have d2 : ((0 : Int) == 0) = true := rfl
              clear hN3
              by_cases q2 : 1 < r.1.length
              · have d3 : decide (((r.1.map eP).length : Int) > 1) = true := decide_eq_true (by rw [List.length_map]; omega)
                have hfin := hsome _ (hendT ⟨q1, q2⟩) q2
                rw [notEmpty q2] at hfin
                (repeat' ((conv => whnf); first | exact trivial | with_reducible refine zX ?_ | refine ⟨rfl, ?_⟩ | refine ⟨_, rfl, ?_⟩ | with_reducible refine zP ?_ | with_reducible refine zL ?_ | refine ⟨fun _ => ?_, fun _ => ?_⟩ | refine zn ?_ | refine zb rfl ?_ | refine zX ?_ | refine zo rfl ?_ | refine zs ?_ | intro _)); all_goals (try (conv => whnf))
                all_goals exact hfin
              · have d3 : decide (((r.1.map eP).length : Int) > 1) = false := decide_eq_false (by rw [List.length_map]; omega)
                have hk := hendF fun h => q2 h.2
                (repeat' ((conv => whnf); first | exact trivial | with_reducible refine zX ?_ | refine ⟨rfl, ?_⟩ | refine ⟨_, rfl, ?_⟩ | with_reducible refine zP ?_ | with_reducible refine zL ?_ | refine ⟨fun _ => ?_, fun _ => ?_⟩ | refine zn ?_ | refine zb rfl ?_ | refine zX ?_ | refine zo rfl ?_ | refine zs ?_ | intro _)); all_goals (try (conv => whnf))
                exact hstep hk rfl
            · have d0 : decide (left > 0) = true := decide_eq_true (by omega)
              rw [if_neg hz0] at hI1 hI2
              simp only at hI1 hI2
              have r1 := hLrow (j3 + 1) hjl3
              obtain ⟨e1, e2, x1, x2⟩ := hg hjl3
              have hal : (acc.map eP).length ≤ 12 := by rw [List.length_map]; omega
              generalize hpL : L[j3 + 1] = p at *
              have hs3 := fun s => @hst3 s p ⟨hjl3, hpL⟩
              clear hst3 hN3 hstep hLrow hxrow hx hrow hg
              have d2 : (((j3 + 1 : Nat) : Int) == 0) = false := beq_ne (by omega)
              have hu : (if left < IntKind.wrap .i64 (p.x - c.move) then left else IntKind.wrap .i64 (p.x - c.move)) = min (p.x - c.move) left := by rw [wrapE (by omega) (by omega)]; omega
              (repeat' ((conv => whnf); first | exact trivial | with_reducible refine zX ?_ | refine ⟨rfl, ?_⟩ | refine ⟨_, rfl, ?_⟩ | with_reducible refine zP ?_ | with_reducible refine zL ?_ | refine ⟨fun _ => ?_, fun _ => ?_⟩ | refine zn ?_ | refine zb rfl ?_ | refine zX ?_ | refine zo rfl ?_ | refine zs ?_ | intro _)); all_goals (try (conv => whnf))
              exact hs3 _ c.move _ hz0 ⟨x1, x2⟩ (by rw [if_neg (by omega)]) hu rfl
end Go.Proofs.YtkjghcbnmipgfaaGreatDoor.Vc
