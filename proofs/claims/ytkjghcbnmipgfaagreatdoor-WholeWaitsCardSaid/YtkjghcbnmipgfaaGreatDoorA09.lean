/- Part of a proof over a Go program: Cb. No condition. -/
import Derived.Test.YtkjghcbnmipgfaaGreatDoorA08
set_option linter.unusedSectionVars false
set_option linter.unusedSimpArgs false
set_option linter.unusedVariables false
set_option maxRecDepth 100000
namespace Go.Proofs.YtkjghcbnmipgfaaGreatDoor.Vc
open Go.RowKit Ma
theorem len_le {n : Nat} (h : n ≤ 24) : n ≤ maxLen := Nat.le_trans h (by decide)
theorem loads98 (nl : Bool) (l : List Ld) : PureCall Tryz.prog 98 [sL nl l] (.p (.bool (mayL l))) := by
  have hld := load120
  refine Fn.run k98 rfl ?_
  generalize Tryz.prog = P at *
  (repeat' ((conv => whnf); first | exact trivial | with_reducible refine zX ?_ | refine ⟨rfl, ?_⟩ | refine ⟨_, rfl, ?_⟩ | with_reducible refine zP ?_ | with_reducible refine zL ?_ | refine ⟨fun _ => ?_, fun _ => ?_⟩ | refine zn ?_ | refine zb rfl ?_ | refine zX ?_ | refine zo rfl ?_ | refine zs ?_ | intro _)); all_goals (try (conv => whnf))
  refine loop_inv (fun n s => ∃ i : Nat, n + i = l.length ∧ (l.drop i).all Ld.ok = l.all Ld.ok ∧ s = ⟨mkT 19 [(0, .p (sL nl l)), (3, .p (.int .i64 i))], []⟩) l.length ?_ ?_
  · conv => whnf
    exact ⟨0, rfl, rfl, rfl⟩
  · rintro n st b N ⟨i, hi, hI, e⟩ hN
    cases e
    by_cases hlt : i < l.length
    · have hrow : (l.map eL)[i]? = some (eL l[i]) := by simp [hlt]
      have hb := lt_t (n := (l.map eL).length) (by simpa using hlt)
      have hc := hld l[i]
      rw [List.drop_eq_getElem_cons hlt] at hI
      simp only [List.all_cons] at hI
      (repeat' ((conv => whnf); first | exact trivial | with_reducible refine zX ?_ | refine ⟨rfl, ?_⟩ | refine ⟨_, rfl, ?_⟩ | with_reducible refine zP ?_ | with_reducible refine zL ?_ | refine ⟨fun _ => ?_, fun _ => ?_⟩ | refine zn ?_ | refine zb rfl ?_ | refine zX ?_ | refine zo rfl ?_ | refine zs ?_ | intro _)); all_goals (try (conv => whnf))
      · rename_i e
        refine bool_end ?_
        unfold mayL
        simp only [Bool.not_eq_true'] at e
        rw [← hI, e]; simp
      · rename_i hlen e
        simp only [Bool.not_eq_false'] at e
        rw [next1 (by simpa using hlt) hlen]
        rw [e, Bool.true_and] at hI
        exact hN (n - 1) _ (by omega) ⟨i + 1, by omega, hI, rfl⟩
    · have hb := lt_f (n := (l.map eL).length) (by simpa using hlt)
      (repeat' ((conv => whnf); first | exact trivial | with_reducible refine zX ?_ | refine ⟨rfl, ?_⟩ | refine ⟨_, rfl, ?_⟩ | with_reducible refine zP ?_ | with_reducible refine zL ?_ | refine ⟨fun _ => ?_, fun _ => ?_⟩ | refine zn ?_ | refine zb rfl ?_ | refine zX ?_ | refine zo rfl ?_ | refine zs ?_ | intro _)); all_goals (try (conv => whnf))
      refine bool_end ?_
      unfold mayL
      rw [List.drop_of_length_le (by omega)] at hI
      simp only [List.all_nil] at hI
      rw [← hI, Bool.and_true, Bool.eq_iff_iff, decide_eq_true_eq, decide_eq_true_eq, List.length_map]
      omega
theorem timeV_false {l : List Ld} (h : (timeV l).2 = false) : (timeV l).1 = 0 := by
  unfold timeV at *
  split at h <;> rename_i h1
  · rw [if_pos h1]
  · rw [if_neg h1]
    split at h <;> rename_i h2
    · cases h
    · rw [if_neg h2]
      split at h <;> rename_i h3
      · cases h
      · rw [dif_neg h3]
theorem time80 (nl : Bool) (l : List Ld) : PureCall Tryz.prog 80 [sL nl l] (.tup [.p (.int .i64 (timeV l).1), .p (.bool (timeV l).2)]) := by
  have hm := loads98 nl l
  cases hl : mayL l with
  | false =>
    rw [hl] at hm
    rw [timeV_bad hl]
    refine Fn.run k80 rfl ?_
    generalize Tryz.prog = P at *
    (repeat' ((conv => whnf); first | exact trivial | with_reducible refine zX ?_ | refine ⟨rfl, ?_⟩ | refine ⟨_, rfl, ?_⟩ | with_reducible refine zP ?_ | with_reducible refine zL ?_ | refine ⟨fun _ => ?_, fun _ => ?_⟩ | refine zn ?_ | refine zb rfl ?_ | refine zX ?_ | refine zo rfl ?_ | refine zs ?_ | intro _)); all_goals (try (conv => whnf))
    rfl
  | true =>
    rw [hl] at hm
    by_cases hn : l = []
    · subst hn
      rw [timeV_nil]
      have hz : ((([] : List Ld).map eL).length : Int) == 0 := rfl
      refine Fn.run k80 rfl ?_
      generalize Tryz.prog = P at *
      (repeat' ((conv => whnf); first | exact trivial | with_reducible refine zX ?_ | refine ⟨rfl, ?_⟩ | refine ⟨_, rfl, ?_⟩ | with_reducible refine zP ?_ | with_reducible refine zL ?_ | refine ⟨fun _ => ?_, fun _ => ?_⟩ | refine zn ?_ | refine zb rfl ?_ | refine zX ?_ | refine zo rfl ?_ | refine zs ?_ | intro _)); all_goals (try (conv => whnf))
      rfl
    · have hl' := mayL_iff.1 hl
      have hz : (((l.map eL).length : Int) == 0) = false := by
        cases l with
        | nil => exact absurd rfl hn
        | cons x xs => simp; omega
      refine Fn.run k80 rfl ?_
      generalize Tryz.prog = P at *
      (repeat' ((conv => whnf); first | exact trivial | with_reducible refine zX ?_ | refine ⟨rfl, ?_⟩ | refine ⟨_, rfl, ?_⟩ | with_reducible refine zP ?_ | with_reducible refine zL ?_ | refine ⟨fun _ => ?_, fun _ => ?_⟩ | refine zn ?_ | refine zb rfl ?_ | refine zX ?_ | refine zo rfl ?_ | refine zs ?_ | intro _)); all_goals (try (conv => whnf))
      refine loop_inv (fun n s => ∃ t : Int, n = (20001 - t).toNat ∧ Seek l t ∧ s = ⟨mkT 47 [(0, .p (sL nl l)), (4, .p (.int .i64 t))], []⟩) 20000 ?_ ?_
      · conv => whnf
        exact ⟨1, rfl, Seek.start hl hn, rfl⟩
      · rintro n st b N ⟨t, hnn, hs, e⟩ hN
        cases e
        by_cases ht : t ≤ 20000
        · have hb : decide (t ≤ 20000) = true := decide_eq_true ht
          have ht1 := hs.lo
          (repeat' ((conv => whnf); first | exact trivial | with_reducible refine zX ?_ | refine ⟨rfl, ?_⟩ | refine ⟨_, rfl, ?_⟩ | with_reducible refine zP ?_ | with_reducible refine zL ?_ | refine ⟨fun _ => ?_, fun _ => ?_⟩ | refine zn ?_ | refine zb rfl ?_ | refine zX ?_ | refine zo rfl ?_ | refine zs ?_ | intro _)); all_goals (try (conv => whnf))
          refine loop_inv (fun n s => ∃ (i : Nat) (acc : Int), n + i = l.length ∧ acc + sumL (ask1 t) (l.drop i) = asked l t ∧ 0 ≤ acc ∧ acc ≤ i * 400000000 ∧
            s = ⟨mkT 47 [(0, .p (sL nl l)), (4, .p (.int .i64 t)), (5, .p (.int .i64 acc)), (6, .p (.int .i64 i))], []⟩) l.length ?_ ?_
          · conv => whnf
            exact ⟨0, 0, rfl, by simp [asked], Int.le_refl _, by omega, rfl⟩
          · rintro m st2 b2 N2 ⟨i, acc, hi, hI, ha1, ha2, e2⟩ hN2
            cases e2
            by_cases hlt : i < l.length
            · have hrow : (l.map eL)[i]? = some (eL l[i]) := by simp [hlt]
              have hb2 := lt_t (n := (l.map eL).length) (by simpa using hlt)
              have hok := hl'.2 l[i] (List.getElem_mem _)
              have hokp := Ld.ok_iff.1 hok
              have htn : l[i].t ≠ 0 := by omega
              have hbd := ask1_bound hok ht1 ht
              rw [List.drop_eq_getElem_cons hlt] at hI
              simp only [sumL] at hI
              (repeat' ((conv => whnf); first | exact trivial | with_reducible refine zX ?_ | refine ⟨rfl, ?_⟩ | refine ⟨_, rfl, ?_⟩ | with_reducible refine zP ?_ | with_reducible refine zL ?_ | refine ⟨fun _ => ?_, fun _ => ?_⟩ | refine zn ?_ | refine zb rfl ?_ | refine zX ?_ | refine zo rfl ?_ | refine zs ?_ | intro _)); all_goals (try (conv => whnf))
              rw [next1 (n := l.length) hlt (len_le hl'.1)]
              have hq : 0 ≤ (t - 1) / l[i].t ∧ (t - 1) / l[i].t ≤ t - 1 := ⟨Int.ediv_nonneg (by omega) (by omega), Int.ediv_le_self _ (by omega)⟩
              have e0 : IntKind.wrap .i64 (t - 1) = t - 1 := wrapE (by omega) (by omega)
              rw [e0, Int.tdiv_eq_ediv_of_nonneg (by omega), wrapE (n := (t - 1) / l[i].t) (by omega) (by omega), wrapE (n := (t - 1) / l[i].t + 1) (by omega) (by omega)]
              have e1 : IntKind.wrap .i64 (l[i].c * ((t - 1) / l[i].t + 1)) = ask1 t l[i] := wrapE (by unfold ask1 at hbd; omega) (by unfold ask1 at hbd; omega)
              rw [e1, wrapE (by omega) (by omega)]
              exact hN2 (m - 1) _ (by omega) ⟨i + 1, acc + ask1 t l[i], by omega, by omega, by omega, by omega, rfl⟩
            · have hb2 := lt_f (n := (l.map eL).length) (by simpa using hlt)
              rw [List.drop_of_length_le (by omega)] at hI
              simp only [sumL] at hI
              have hI : acc = asked l t := by omega
              subst hI
              (repeat' ((conv => whnf); first | exact trivial | with_reducible refine zX ?_ | refine ⟨rfl, ?_⟩ | refine ⟨_, rfl, ?_⟩ | with_reducible refine zP ?_ | with_reducible refine zL ?_ | refine ⟨fun _ => ?_, fun _ => ?_⟩ | refine zn ?_ | refine zb rfl ?_ | refine zX ?_ | refine zo rfl ?_ | refine zs ?_ | intro _)); all_goals (try (conv => whnf))
              · rename_i e
                rw [hs.found ht (by simpa using e)]; rfl
              · rename_i e
                have hx := hs.next ht (by simpa using e)
                exact hN _ _ (by omega) ⟨asked l t, rfl, hx.1, rfl⟩
        · have hb : decide (t ≤ 20000) = false := decide_eq_false ht
          (repeat' ((conv => whnf); first | exact trivial | with_reducible refine zX ?_ | refine ⟨rfl, ?_⟩ | refine ⟨_, rfl, ?_⟩ | with_reducible refine zP ?_ | with_reducible refine zL ?_ | refine ⟨fun _ => ?_, fun _ => ?_⟩ | refine zn ?_ | refine zb rfl ?_ | refine zX ?_ | refine zo rfl ?_ | refine zs ?_ | intro _)); all_goals (try (conv => whnf))
          rw [hs.never ht]; rfl
def inc (t : Int) (x : Ld) : Int := if t ≥ x.d ∧ (t - x.d) % x.t = 0 then x.c else 0
theorem dueL_step {l : List Ld} (hl : ∀ x, x ∈ l → x.ok = true) (t : Int) : dueL l t = dueL l (t - 1) + sumL (inc t) l := by
  induction l with
  | nil => simp [dueL, sumL]
  | cons x xs ih =>
    have h1 := due1_step (hl x (List.mem_cons_self ..)) t
    have h2 := ih fun y hy => hl y (List.mem_cons_of_mem _ hy)
    simp only [dueL, sumL] at *
    unfold inc at *
    omega
theorem over61 (nl : Bool) (l : List Ld) : PureCall Tryz.prog 61 [sL nl l] (.tup [.p (.int .i64 (firstV l (timeV l).1)), .p (.bool (timeV l).2)]) := by
  have htm := time80 nl l
  have hrange := timeV_range l
  have hz := timeV_false (l := l)
  generalize hT : timeV l = T at *
  obtain ⟨e0, ok⟩ := T
  cases ok with
  | false =>
    have hz := hz rfl
    simp only at hz
    subst hz
    have hf0 : firstV l 0 = 0 := firstV_none fun t h1 h2 => by omega
    have hb1 : decide ((1 : Int) ≤ 0) = false := by decide
    refine Fn.run k61 rfl ?_
    generalize Tryz.prog = P at *
    (repeat' ((conv => whnf); first | exact trivial | with_reducible refine zX ?_ | refine ⟨rfl, ?_⟩ | refine ⟨_, rfl, ?_⟩ | with_reducible refine zP ?_ | with_reducible refine zL ?_ | refine ⟨fun _ => ?_, fun _ => ?_⟩ | refine zn ?_ | refine zb rfl ?_ | refine zX ?_ | refine zo rfl ?_ | refine zs ?_ | intro _)); all_goals (try (conv => whnf))
    refine loop_inv (fun n s => s = ⟨mkT 61 [(0, .p (sL nl l)), (4, .p (.int .i64 0)), (5, .p (.bool false)), (6, .p (.int .i64 0)), (7, .p (.int .i64 1))], []⟩) 0 ?_ ?_
    · conv => whnf
      rfl
    · rintro n st b N e hN
      cases e
      (repeat' ((conv => whnf); first | exact trivial | with_reducible refine zX ?_ | refine ⟨rfl, ?_⟩ | refine ⟨_, rfl, ?_⟩ | with_reducible refine zP ?_ | with_reducible refine zL ?_ | refine ⟨fun _ => ?_, fun _ => ?_⟩ | refine zn ?_ | refine zb rfl ?_ | refine zX ?_ | refine zo rfl ?_ | refine zs ?_ | intro _)); all_goals (try (conv => whnf))
      show resOf _ = DV.tup [TV.p (.int .i64 (firstV l 0)), TV.p (.bool false)]
      rw [hf0]; rfl
  | true =>
    have hl := (timeV_ok (by rw [hT])).1
    have hl' := mayL_iff.1 hl
    simp only at hrange
    refine Fn.run k61 rfl ?_
    generalize Tryz.prog = P at *
    (repeat' ((conv => whnf); first | exact trivial | with_reducible refine zX ?_ | refine ⟨rfl, ?_⟩ | refine ⟨_, rfl, ?_⟩ | with_reducible refine zP ?_ | with_reducible refine zL ?_ | refine ⟨fun _ => ?_, fun _ => ?_⟩ | refine zn ?_ | refine zb rfl ?_ | refine zX ?_ | refine zo rfl ?_ | refine zs ?_ | intro _)); all_goals (try (conv => whnf))
    refine loop_inv (fun n s => ∃ t : Int, n = (e0 + 1 - t).toNat ∧ 1 ≤ t ∧ t ≤ e0 + 1 ∧ (∀ s, 1 ≤ s → s < t → dueL l s ≤ s) ∧
      s = ⟨mkT 61 [(0, .p (sL nl l)), (4, .p (.int .i64 e0)), (5, .p (.bool true)), (6, .p (.int .i64 (dueL l (t - 1)))), (7, .p (.int .i64 t))], []⟩) e0.toNat ?_ ?_
    · conv => whnf
      refine ⟨1, by omega, Int.le_refl _, by omega, fun s h1 h2 => by omega, ?_⟩
      have : dueL l (1 - 1) = 0 := due_zero hl
      rw [this]; rfl
    · rintro n st b N ⟨t, hn, ht1, ht2, hdone, e⟩ hN
      cases e
      by_cases hte : t ≤ e0
      · have hb : decide (t ≤ e0) = true := decide_eq_true hte
        have hstep := dueL_step hl'.2 t
        have hb1 := due_bound hl (t := t - 1) (by omega)
        have hb2 := due_bound hl (t := t) (by omega)
        (repeat' ((conv => whnf); first | exact trivial | with_reducible refine zX ?_ | refine ⟨rfl, ?_⟩ | refine ⟨_, rfl, ?_⟩ | with_reducible refine zP ?_ | with_reducible refine zL ?_ | refine ⟨fun _ => ?_, fun _ => ?_⟩ | refine zn ?_ | refine zb rfl ?_ | refine zX ?_ | refine zo rfl ?_ | refine zs ?_ | intro _)); all_goals (try (conv => whnf))
        refine loop_inv (fun n s => ∃ (i : Nat) (acc : Int), n + i = l.length ∧ acc + sumL (inc t) (l.drop i) = dueL l t ∧ 0 ≤ acc ∧ acc ≤ 9600000000 + i * 20000 ∧
          s = ⟨mkT 61 [(0, .p (sL nl l)), (4, .p (.int .i64 e0)), (5, .p (.bool true)), (6, .p (.int .i64 acc)), (7, .p (.int .i64 t)), (8, .p (.int .i64 i))], []⟩) l.length ?_ ?_
        · conv => whnf
          exact ⟨0, dueL l (t - 1), rfl, by simpa using hstep.symm, hb1.1, by omega, rfl⟩
        · rintro m st2 b2 N2 ⟨i, acc, hi, hI, ha1, ha2, e2⟩ hN2
          cases e2
          by_cases hlt : i < l.length
          · have hrow : (l.map eL)[i]? = some (eL l[i]) := by simp [hlt]
            have hb3 := lt_t (n := (l.map eL).length) (by simpa using hlt)
            have hokp := Ld.ok_iff.1 (hl'.2 l[i] (List.getElem_mem _))
            have htn : l[i].t ≠ 0 := by omega
            have hnx : IntKind.wrap .i64 ((i : Int) + 1) = ((i + 1 : Nat) : Int) := next1 (n := l.length) hlt (len_le hl'.1)
            rw [List.drop_eq_getElem_cons hlt] at hI
            simp only [sumL] at hI
            have htd : t ≥ l[i].d → IntKind.wrap .i64 (t - l[i].d) = t - l[i].d := fun h => wrapE (by omega) (by omega)
            (repeat' ((conv => whnf); first | exact trivial | with_reducible refine zX ?_ | refine ⟨rfl, ?_⟩ | refine ⟨_, rfl, ?_⟩ | with_reducible refine zP ?_ | with_reducible refine zL ?_ | refine ⟨fun _ => ?_, fun _ => ?_⟩ | refine zn ?_ | refine zb rfl ?_ | refine zX ?_ | refine zo rfl ?_ | refine zs ?_ | intro _)); all_goals (try (conv => whnf))
            · rename_i e1 e2
              have e1 := of_decide_eq_true e1
              rw [htd e1, Int.tmod_eq_emod_of_nonneg (by omega)] at e2
              have hin : inc t l[i] = l[i].c := by unfold inc; rw [if_pos ⟨e1, by simpa using e2⟩]
              rw [hnx, wrapE (by omega) (by omega)]
              exact hN2 (m - 1) _ (by omega) ⟨i + 1, acc + l[i].c, by omega, by omega, by omega, by omega, rfl⟩
            · rename_i e1 e2
              have e1 := of_decide_eq_true e1
              rw [htd e1, Int.tmod_eq_emod_of_nonneg (by omega)] at e2
              have hin : inc t l[i] = 0 := by unfold inc; rw [if_neg fun h => by rw [h.2] at e2; simp at e2]
              rw [hnx]
              exact hN2 (m - 1) _ (by omega) ⟨i + 1, acc, by omega, by omega, by omega, by omega, rfl⟩
            · rename_i e1
              have e1 : ¬ t ≥ l[i].d := by simpa using e1
              have hin : inc t l[i] = 0 := by unfold inc; rw [if_neg fun h => e1 h.1]
              rw [hnx]
              exact hN2 (m - 1) _ (by omega) ⟨i + 1, acc, by omega, by omega, by omega, by omega, rfl⟩
          · have hb3 := lt_f (n := (l.map eL).length) (by simpa using hlt)
            rw [List.drop_of_length_le (by omega)] at hI
            simp only [sumL] at hI
            have hI : acc = dueL l t := by omega
            subst hI
            by_cases hov : dueL l t > t
            · have hb4 : decide (dueL l t > t) = true := decide_eq_true hov
              (repeat' ((conv => whnf); first | exact trivial | with_reducible refine zX ?_ | refine ⟨rfl, ?_⟩ | refine ⟨_, rfl, ?_⟩ | with_reducible refine zP ?_ | with_reducible refine zL ?_ | refine ⟨fun _ => ?_, fun _ => ?_⟩ | refine zn ?_ | refine zb rfl ?_ | refine zX ?_ | refine zo rfl ?_ | refine zs ?_ | intro _)); all_goals (try (conv => whnf))
              show resOf _ = DV.tup [TV.p (.int .i64 (firstV l e0)), TV.p (.bool true)]
              rw [firstV_at ⟨ht1, hte, hov, hdone⟩]
              rfl
            · have hb4 : decide (dueL l t > t) = false := decide_eq_false hov
              (repeat' ((conv => whnf); first | exact trivial | with_reducible refine zX ?_ | refine ⟨rfl, ?_⟩ | refine ⟨_, rfl, ?_⟩ | with_reducible refine zP ?_ | with_reducible refine zL ?_ | refine ⟨fun _ => ?_, fun _ => ?_⟩ | refine zn ?_ | refine zb rfl ?_ | refine zX ?_ | refine zo rfl ?_ | refine zs ?_ | intro _)); all_goals (try (conv => whnf))
              rw [wrapE (by omega) (by omega)]
              refine hN _ _ (by omega) ⟨t + 1, rfl, by omega, by omega, fun s h1 h2 => ?_, ?_⟩
              · by_cases hs : s = t
                · subst hs; omega
                · exact hdone s h1 (by omega)
              · have : t + 1 - 1 = t := by omega
                rw [this]; rfl
      · have hb : decide (t ≤ e0) = false := decide_eq_false hte
        (repeat' ((conv => whnf); first | exact trivial | with_reducible refine zX ?_ | refine ⟨rfl, ?_⟩ | refine ⟨_, rfl, ?_⟩ | with_reducible refine zP ?_ | with_reducible refine zL ?_ | refine ⟨fun _ => ?_, fun _ => ?_⟩ | refine zn ?_ | refine zb rfl ?_ | refine zX ?_ | refine zo rfl ?_ | refine zs ?_ | intro _)); all_goals (try (conv => whnf))
        show resOf _ = DV.tup [TV.p (.int .i64 (firstV l e0)), TV.p (.bool true)]
        rw [firstV_none fun s h1 h2 => hdone s h1 (by omega)]
        rfl
theorem fits34 (nl : Bool) (l : List Ld) : PureCall Tryz.prog 34 [sL nl l] (.p (.bool (fitsB l))) := by
  have h1 := over61 nl l
  rw [fitsB_eq]
  generalize timeV l = T at *
  obtain ⟨e0, ok⟩ := T
  refine Fn.run k34 rfl ?_
  generalize Tryz.prog = P at *
  (repeat' ((conv => whnf); first | exact trivial | with_reducible refine zX ?_ | refine ⟨rfl, ?_⟩ | refine ⟨_, rfl, ?_⟩ | with_reducible refine zP ?_ | with_reducible refine zL ?_ | refine ⟨fun _ => ?_, fun _ => ?_⟩ | refine zn ?_ | refine zb rfl ?_ | refine zX ?_ | refine zo rfl ?_ | refine zs ?_ | intro _)); all_goals (try (conv => whnf))
  · rename_i e
    exact bool_end (by simp only at e; subst e; rw [Bool.true_and, Bool.eq_iff_iff]; simp)
  · rename_i e
    exact bool_end (by simp only [Bool.not_true] at e; subst e; simp)
end Go.Proofs.YtkjghcbnmipgfaaGreatDoor.Vc
