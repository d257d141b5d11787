/- Part of a proof over a Go program: Cg. No condition. -/
import Derived.Test.YtkjghcbnmipgfaaGreatDoorA10
set_option linter.unusedSectionVars false
set_option linter.unusedSimpArgs false
set_option linter.unusedVariables false
set_option maxRecDepth 100000
namespace Go.Proofs.YtkjghcbnmipgfaaGreatDoor.Vc
open Go.RowKit Ma
def eQ (p : Ma.Place) : PV := .agg [.int .i64 p.core, .int .i64 p.x]
def rQ (p : Ma.Place) : List DV := [.p (.int .i64 p.core), .p (.int .i64 p.x)]
def cmpV (a b : Int) : Int := if a < b then -1 else if a > b then 1 else 0
theorem cmpV_neg (a b : Int) : decide (cmpV a b < 0) = decide (a < b) := by
  unfold cmpV
  split
  · rename_i h; simp [h]
  · rename_i h; split <;> simp [h]
theorem nan94 (a : Int) : PureCall Tryz.prog 94 [.int .i64 a] (.p (.bool false)) := by
  refine Fn.run k94 rfl ?_
  generalize Tryz.prog = P at *
  (repeat' ((conv => whnf); first | exact trivial | with_reducible refine zX ?_ | refine ⟨rfl, ?_⟩ | refine ⟨_, rfl, ?_⟩ | with_reducible refine zP ?_ | with_reducible refine zL ?_ | refine ⟨fun _ => ?_, fun _ => ?_⟩ | refine zn ?_ | refine zb rfl ?_ | refine zX ?_ | refine zo rfl ?_ | refine zs ?_ | intro _)); all_goals (try (conv => whnf))
  all_goals exact bool_end (by simp)
theorem nan97 (a : Int) : PureCall Tryz.prog 97 [.int .i64 a] (.p (.bool false)) := by
  refine Fn.run k97 rfl ?_
  generalize Tryz.prog = P at *
  (repeat' ((conv => whnf); first | exact trivial | with_reducible refine zX ?_ | refine ⟨rfl, ?_⟩ | refine ⟨_, rfl, ?_⟩ | with_reducible refine zP ?_ | with_reducible refine zL ?_ | refine ⟨fun _ => ?_, fun _ => ?_⟩ | refine zn ?_ | refine zb rfl ?_ | refine zX ?_ | refine zo rfl ?_ | refine zs ?_ | intro _)); all_goals (try (conv => whnf))
  all_goals exact bool_end (by simp)
theorem cmp75 (a b : Int) : PureCall Tryz.prog 75 [.int .i64 a, .int .i64 b] (.p (.int .i64 (cmpV a b))) := by
  have h1 := nan94 a
  have h2 := nan94 b
  refine Fn.run k75 rfl ?_
  generalize Tryz.prog = P at *
  (repeat' ((conv => whnf); first | exact trivial | with_reducible refine zX ?_ | refine ⟨rfl, ?_⟩ | refine ⟨_, rfl, ?_⟩ | with_reducible refine zP ?_ | with_reducible refine zL ?_ | refine ⟨fun _ => ?_, fun _ => ?_⟩ | refine zn ?_ | refine zb rfl ?_ | refine zX ?_ | refine zo rfl ?_ | refine zs ?_ | intro _)); all_goals (try (conv => whnf))
  all_goals (refine int_end ?_; unfold cmpV; simp only [decide_eq_true_eq, decide_eq_false_iff_not] at *; repeat' split) <;> omega
theorem cmp78 (a b : Int) : PureCall Tryz.prog 78 [.int .i64 a, .int .i64 b] (.p (.int .i64 (cmpV a b))) := by
  have h1 := nan97 a
  have h2 := nan97 b
  refine Fn.run k78 rfl ?_
  generalize Tryz.prog = P at *
  (repeat' ((conv => whnf); first | exact trivial | with_reducible refine zX ?_ | refine ⟨rfl, ?_⟩ | refine ⟨_, rfl, ?_⟩ | with_reducible refine zP ?_ | with_reducible refine zL ?_ | refine ⟨fun _ => ?_, fun _ => ?_⟩ | refine zn ?_ | refine zb rfl ?_ | refine zX ?_ | refine zo rfl ?_ | refine zs ?_ | intro _)); all_goals (try (conv => whnf))
  all_goals (refine int_end ?_; unfold cmpV; simp only [decide_eq_true_eq, decide_eq_false_iff_not] at *; repeat' split) <;> omega
theorem byX74 (a b : Ma.Place) : PureCall Tryz.prog 74 [eQ a, eQ b] (.p (.int .i64 (cmpV b.x a.x))) := by
  have h1 := cmp75 b.x a.x
  refine Fn.run k74 rfl ?_
  generalize Tryz.prog = P at *
  (repeat' ((conv => whnf); first | exact trivial | with_reducible refine zX ?_ | refine ⟨rfl, ?_⟩ | refine ⟨_, rfl, ?_⟩ | with_reducible refine zP ?_ | with_reducible refine zL ?_ | refine ⟨fun _ => ?_, fun _ => ?_⟩ | refine zn ?_ | refine zb rfl ?_ | refine zX ?_ | refine zo rfl ?_ | refine zs ?_ | intro _)); all_goals (try (conv => whnf))
  all_goals exact int_end rfl
theorem byC77 (a b : Ma.Place) : PureCall Tryz.prog 77 [eQ a, eQ b] (.p (.int .i64 (cmpV a.core b.core))) := by
  have h1 := cmp78 a.core b.core
  refine Fn.run k77 rfl ?_
  generalize Tryz.prog = P at *
  (repeat' ((conv => whnf); first | exact trivial | with_reducible refine zX ?_ | refine ⟨rfl, ?_⟩ | refine ⟨_, rfl, ?_⟩ | with_reducible refine zP ?_ | with_reducible refine zL ?_ | refine ⟨fun _ => ?_, fun _ => ?_⟩ | refine zn ?_ | refine zb rfl ?_ | refine zX ?_ | refine zo rfl ?_ | refine zs ?_ | intro _)); all_goals (try (conv => whnf))
  all_goals exact int_end rfl
theorem allPR_Q (l : List Ma.Place) : allPR (l.map rQ) = true := by
  induction l with
  | nil => rfl
  | cons a l ih => simp [allPR, allP, rQ, DV.isP, ih]
/-- Two neighbours change places. -/
theorem swapQ (X Y : List Ma.Place) (b e : Ma.Place) : setL (setL ((X ++ b :: e :: Y).map rQ) (X.length + 1) (rQ b)) X.length (rQ e) = (X ++ e :: b :: Y).map rQ := by
  induction X with
  | nil => rfl
  | cons x X ih => simp only [List.cons_append, List.map_cons, List.length_cons, setL]; rw [← ih]
theorem insert109 (lt : Ma.Place → Ma.Place → Bool) (f : FuncId) (cv : Ma.Place → Ma.Place → Int) (hf : ∀ a b, PureCall Tryz.prog f [eQ a, eQ b] (.p (.int .i64 (cv a b)))) (hlt : ∀ a b, decide (cv a b < 0) = lt a b) (l : List Ma.Place) (hl : l.length ≤ 1000) (ag : Bool) :
    MCall Tryz.prog 109 2 [.bs 0 2 ag 0 l.length, .p (.int .i64 0), .p (.int .i64 l.length), .p (.fn f [])] (l.map rQ) ((isort lt l).map rQ) (.tup []) := by
  have hm := maxLen_eq
  refine Fn.runM k109 rfl (allPR_Q _) (allPR_Q _) rfl (by decide) ?_
  generalize Tryz.prog = P at *
  (repeat' ((conv => whnf); first | exact trivial | with_reducible refine zX ?_ | refine ⟨rfl, ?_⟩ | refine ⟨_, rfl, ?_⟩ | with_reducible refine zP ?_ | with_reducible refine zL ?_ | refine ⟨fun _ => ?_, fun _ => ?_⟩ | refine zn ?_ | refine zb rfl ?_ | refine zX ?_ | refine zo rfl ?_ | refine zs ?_ | intro _)); all_goals (try (conv => whnf))
  refine loop_inv (fun m s => ∃ (i : Nat) (rows : List (List DV)), m = l.length - i ∧ 1 ≤ i ∧ i ≤ l.length + 1 ∧ rows = ((isRev lt (l.take i)).reverse ++ l.drop i).map rQ ∧
    s = ⟨mkT 53 [(0, .bs 0 2 ag 0 l.length), (1, .p (.int .i64 0)), (2, .p (.int .i64 l.length)), (3, .p (.fn f [])), (8, .p (.int .i64 i))], [some ⟨true, 2, rows, true⟩]⟩) (l.length - 1) ?_ ?_
  · conv => whnf
    refine ⟨1, l.map rQ, rfl, Nat.le_refl _, by omega, ?_, rfl⟩
    cases l with
    | nil => rfl
    | cons a l => simp [isRev, insRev]
  · rintro m st bb N ⟨i, rows, hmi, h1, h2, hrows, e⟩ hN
    cases e
    by_cases hlt2 : i < l.length
    · have hb : decide ((i : Int) < (l.length : Int)) = true := lt_t hlt2
      (repeat' ((conv => whnf); first | exact trivial | with_reducible refine zX ?_ | refine ⟨rfl, ?_⟩ | refine ⟨_, rfl, ?_⟩ | with_reducible refine zP ?_ | with_reducible refine zL ?_ | refine ⟨fun _ => ?_, fun _ => ?_⟩ | refine zn ?_ | refine zb rfl ?_ | refine zX ?_ | refine zo rfl ?_ | refine zs ?_ | intro _)); all_goals (try (conv => whnf))
      refine loop_inv (fun m s => ∃ (rest ps : List Ma.Place) (rows : List (List DV)), m = rest.length ∧ ps.length + rest.length = i ∧ insRev lt l[i] (isRev lt (l.take i)) = ps ++ insRev lt l[i] rest ∧
        rows = ((rest.reverse ++ l[i] :: ps.reverse) ++ l.drop (i + 1)).map rQ ∧
        s = ⟨mkT 53 [(0, .bs 0 2 ag 0 l.length), (1, .p (.int .i64 0)), (2, .p (.int .i64 l.length)), (3, .p (.fn f [])), (8, .p (.int .i64 i)), (9, .p (.int .i64 rest.length))], [some ⟨true, 2, rows, true⟩]⟩) i ?_ ?_
      · conv => whnf
        have hil : (isRev lt (l.take i)).length = i := by rw [(isRev_perm lt _).length_eq]; simp; omega
        refine ⟨isRev lt (l.take i), [], rows, hil.symm, by simpa using hil, rfl, ?_, ?_⟩
        · rw [hrows, List.drop_eq_getElem_cons hlt2]; simp
        · rw [hil]; rfl
      · rintro m2 st2 bb2 N2 ⟨rest, ps, rows2, hm2, hps, hins, hrows2, e⟩ hN2
        cases e
        have hnext : (isRev lt (l.take (i + 1))) = ps ++ insRev lt l[i] rest := by
          rw [← hins, ← isRev_append, List.take_succ_eq_append_getElem hlt2]
        generalize hx : l[i] = x at *
        cases rest with
        | nil =>
          have d1 : decide ((([] : List Ma.Place).length : Int) > 0) = false := by decide
          (repeat' ((conv => whnf); first | exact trivial | with_reducible refine zX ?_ | refine ⟨rfl, ?_⟩ | refine ⟨_, rfl, ?_⟩ | with_reducible refine zP ?_ | with_reducible refine zL ?_ | refine ⟨fun _ => ?_, fun _ => ?_⟩ | refine zn ?_ | refine zb rfl ?_ | refine zX ?_ | refine zo rfl ?_ | refine zs ?_ | intro _)); all_goals (try (conv => whnf))
          rw [next1 (n := l.length) hlt2 (by omega)]
          refine hN (l.length - (i + 1)) _ (by omega) ⟨i + 1, rows2, rfl, by omega, by omega, ?_, rfl⟩
          rw [hrows2, hnext]; simp [insRev]
        | cons b rest =>
          have d1 : decide ((((b :: rest).length : Nat) : Int) > 0) = true := decide_eq_true (by simp only [List.length_cons]; omega)
          have hj : rest.length + 1 ≤ i := by simp at hps; omega
          have w1 : IntKind.wrap .i64 ((((b :: rest).length : Nat) : Int) - 1) = (rest.length : Int) := by rw [wrapE (by simp only [List.length_cons]; omega) (by simp only [List.length_cons]; omega)]; simp only [List.length_cons]; omega
          have e1 : (((b :: rest).length : Nat) : Int) < (l.length : Int) := by simp only [List.length_cons]; omega
          have e2 : (0 : Int) ≤ IntKind.wrap .i64 ((((b :: rest).length : Nat) : Int) - 1) := by rw [w1]; omega
          have e3 : IntKind.wrap .i64 ((((b :: rest).length : Nat) : Int) - 1) < (l.length : Int) := by rw [w1]; omega
          have r0 : rows2 = ((rest.reverse ++ b :: x :: ps.reverse) ++ l.drop (i + 1)).map rQ := by rw [hrows2]; simp
          have g1 : rows2[0 + (((b :: rest).length : Nat) : Int).toNat]? = some (rQ x) := by
            rw [r0, List.getElem?_map, Int.toNat_natCast, Nat.zero_add]
            simp
          have g2 : rows2[0 + (IntKind.wrap .i64 ((((b :: rest).length : Nat) : Int) - 1)).toNat]? = some (rQ b) := by
            rw [w1, r0, List.getElem?_map, Int.toNat_natCast, Nat.zero_add]
            simp
          have g3 : (setL rows2 (0 + (((b :: rest).length : Nat) : Int).toNat) (rQ b))[0 + (IntKind.wrap .i64 ((((b :: rest).length : Nat) : Int) - 1)).toNat]? = some (rQ b) := by
            rw [getElem?_setL, if_neg (by rw [w1]; simp only [Int.toNat_natCast, List.length_cons]; omega)]
            exact g2
          have hc := hf x b
          have hcl := hlt x b
          cases hl2 : lt x b with
          | true =>
            rw [hl2] at hcl
            (repeat' ((conv => whnf); first | exact trivial | with_reducible refine zX ?_ | refine ⟨rfl, ?_⟩ | refine ⟨_, rfl, ?_⟩ | with_reducible refine zP ?_ | with_reducible refine zL ?_ | refine ⟨fun _ => ?_, fun _ => ?_⟩ | refine zn ?_ | refine zb rfl ?_ | refine zX ?_ | refine zo rfl ?_ | refine zs ?_ | intro _)); all_goals (try (conv => whnf))
            rw [w1]
            refine hN2 rest.length _ (by rw [hm2]; simp) ⟨rest, ps ++ [b], _, rfl, by simp at hps ⊢; omega, ?_, ?_, rfl⟩
            · rw [hins]; simp [insRev, hl2]
            · have hsw := swapQ rest.reverse (ps.reverse ++ l.drop (i + 1)) b x
              simp only [List.length_reverse] at hsw
              simp only [Int.toNat_natCast, Nat.zero_add, List.length_cons]
              rw [r0]
              simp only [List.append_assoc, List.cons_append, List.reverse_append, List.reverse_cons, List.reverse_nil, List.nil_append] at hsw ⊢
              exact hsw
          | false =>
            rw [hl2] at hcl
            (repeat' ((conv => whnf); first | exact trivial | with_reducible refine zX ?_ | refine ⟨rfl, ?_⟩ | refine ⟨_, rfl, ?_⟩ | with_reducible refine zP ?_ | with_reducible refine zL ?_ | refine ⟨fun _ => ?_, fun _ => ?_⟩ | refine zn ?_ | refine zb rfl ?_ | refine zX ?_ | refine zo rfl ?_ | refine zs ?_ | intro _)); all_goals (try (conv => whnf))
            rw [next1 (n := l.length) hlt2 (by omega)]
            refine hN (l.length - (i + 1)) _ (by omega) ⟨i + 1, rows2, rfl, by omega, by omega, ?_, rfl⟩
            rw [hrows2, hnext]; simp [insRev, hl2]
    · have hb : decide ((i : Int) < (l.length : Int)) = false := lt_f hlt2
      (repeat' ((conv => whnf); first | exact trivial | with_reducible refine zX ?_ | refine ⟨rfl, ?_⟩ | refine ⟨_, rfl, ?_⟩ | with_reducible refine zP ?_ | with_reducible refine zL ?_ | refine ⟨fun _ => ?_, fun _ => ?_⟩ | refine zn ?_ | refine zb rfl ?_ | refine zX ?_ | refine zo rfl ?_ | refine zs ?_ | intro _)); all_goals (try (conv => whnf))
      refine ⟨?_, rfl⟩
      show some (⟨true, 2, rows, true⟩ : Box) = _
      rw [hrows, List.take_of_length_le (by omega), List.drop_of_length_le (by omega), List.append_nil]
      rfl
end Go.Proofs.YtkjghcbnmipgfaaGreatDoor.Vc
