/- The law of number 7: from its contract to the row and the card. No condition. -/
import Derived.Test.YtkjghcbnmipgfaaGreatDoorRows
import Derived.Test.YtkjghcbnmipgfaaGreatDoorCards
import Derived.Test.YtkjghcbnmipgfaaGreatDoorTie
import Derived.Test.YtkjghcbnmipgfaaGreatDoorA22
import Derived.Test.YtkjghcbnmipgfaaGreatDoorA28
import Derived.Test.YtkjghcbnmipgfaaGreatDoorL7
set_option linter.unusedSectionVars false
set_option linter.unusedSimpArgs false
set_option linter.unusedVariables false
set_option maxRecDepth 100000
namespace Go.Proofs.YtkjghcbnmipgfaaGreatDoor
open Go.ChangeShapes Go.WideShapes Go.ChangeAt Go.RowKit Vc
theorem planAll_lifted (os : Os) (started : os.Started) (H : Type) (enc : TypeId × Value → H) :
    ReturnsInHanded {} Tryz.checked os 7 .any (fun w args => (Rows.planAllSpec.pre enc Tryz.prog Tryz.f7 [] false w args ∧ laidMetH Tryz.prog laidA w) ∧ sizedMet enc Tryz.prog Tryz.f7 (OpenSpec.ofChange Rows.planAllSpec) false w args)
      (Rows.planAllSpec.post enc Tryz.prog Tryz.f7 false true false false) := by
  refine returnsInHanded_of_change_and (C := Tryz.checked) (X := fun w _ => laidMetH Tryz.prog laidA w) (fun _ _ _ hh h => h.of_heap hh) own0 started (by kernel_rfl) Tryz.func7
    (ChangeSpec.witness_shaped (enc := enc) (C := Tryz.checked) (os := os) (X := fun w _ => laidMetH Tryz.prog laidA w) false (World.laidAll Tryz.prog os laidA) #[.agg #[.int .i64 0, .int .i64 0, .int .i64 0, .int .i64 0, .slice none 0 0], .agg #[.int .i64 0, .int .i64 0, .int .i64 0, .slice none 0 0], .agg #[.int .i64 0, .slice none 0 0], .agg #[.int .i64 0, .slice none 0 0], .int .i64 0, .int .i64 0] 8 (World.laidAll_os _ _ _) (World.shaped_of_ZipB (by kernel_rfl) (by kernel_rfl)) (by kernel_rfl) (by kernel_rfl) (by kernel_rfl) (door_met os _)) ?_
  intro W base args ds gs before hval0 hW _ _ _ _
  have hval : ∀ (j : Nat) t v, Tryz.f7.params[j]? = some t → args[j]? = some v → Value.okWide Tryz.prog W .any base t v := hval0
  have hW' := hW
  obtain ⟨p, q, hA0, hV, rfl, hfz, hnd⟩ := hW
  have hA : DataW.TrodAll enc Tryz.prog W 0 (fun _ => true) true Tryz.f7.params.toList args.toList ds p := hA0
  have hps : Tryz.f7.params = #[24, 28, 38, 38, 3, 2] := by kernel_rfl
  rw [hps] at hA hval
  obtain ⟨argl⟩ := args
  obtain ⟨v0, w0, d0, e0, p0, q0, rfl, rfl, rfl, h0, hA⟩ := trodC hA
  obtain ⟨v1, w1, d1, e1, p1, q1, rfl, rfl, rfl, h1, hA⟩ := trodC hA
  obtain ⟨v2, w2, d2, e2, p2, q2, rfl, rfl, rfl, h2, hA⟩ := trodC hA
  obtain ⟨v3, w3, d3, e3, p3, q3, rfl, rfl, rfl, h3, hA⟩ := trodC hA
  obtain ⟨v4, w4, d4, e4, p4, q4, rfl, rfl, rfl, h4, hA⟩ := trodC hA
  obtain ⟨v5, w5, d5, e5, p5, q5, rfl, rfl, rfl, h5, hA⟩ := trodC hA
  obtain ⟨rfl, rfl, rfl⟩ := trodN hA
  obtain ⟨rfl, rfl⟩ := trodVars_none hV
  obtain ⟨x0, r0, f0⟩ := rd_arg (n := 12) ok24 h0 (fun _ => rfl) (hval 0 24 v0 rfl rfl) (len_of ok24 (hval 0 24 v0 rfl rfl))
  rw [s24] at f0
  obtain ⟨x1, r1, f1⟩ := rd_arg (n := 12) ok28 h1 (fun _ => rfl) (hval 1 28 v1 rfl rfl) (len_of ok28 (hval 1 28 v1 rfl rfl))
  rw [s28] at f1
  obtain ⟨x2, r2, f2⟩ := rd_arg (n := 12) ok38 h2 (fun _ => rfl) (hval 2 38 v2 rfl rfl) (len_of ok38 (hval 2 38 v2 rfl rfl))
  rw [s38] at f2
  obtain ⟨x3, r3, f3⟩ := rd_arg (n := 12) ok38 h3 (fun _ => rfl) (hval 3 38 v3 rfl rfl) (len_of ok38 (hval 3 38 v3 rfl rfl))
  rw [s38] at f3
  obtain ⟨x4, r4, f4⟩ := rd_arg (n := 12) ok3 h4 (fun _ => rfl) (hval 4 3 v4 rfl rfl) (len_of ok3 (hval 4 3 v4 rfl rfl))
  rw [s3] at f4
  obtain ⟨x5, r5, f5⟩ := rd_arg (n := 12) ok2 h5 (fun _ => rfl) (hval 5 2 v5 rfl rfl) (len_of ok2 (hval 5 2 v5 rfl rfl))
  rw [s2] at f5
  obtain ⟨c0, a0, n0⟩ := rdCf r0
  rw [a0] at f0
  obtain ⟨c1, a1, n1⟩ := rdTk r1
  rw [a1] at f1
  obtain ⟨k2, b2, c2, a2, n2⟩ := rdPl r2
  rw [a2] at f2
  obtain ⟨k3, b3, c3, a3, n3⟩ := rdPl r3
  rw [a3] at f3
  obtain ⟨c4, a4⟩ := rd_int u3 r4
  rw [a4] at f4
  obtain ⟨c5, a5⟩ := rd_int u2 r5
  rw [a5] at f5
  simp only [List.append_nil] at hW'
  have l0 : ∀ x ∈ p0, x.block < W.heap.size := fun x hx => by simpa using hW'.lt x (by simp [hx])
  have l1 : ∀ x ∈ p1, x.block < W.heap.size := fun x hx => by simpa using hW'.lt x (by simp [hx])
  have l2 : ∀ x ∈ p2, x.block < W.heap.size := fun x hx => by simpa using hW'.lt x (by simp [hx])
  have l3 : ∀ x ∈ p3, x.block < W.heap.size := fun x hx => by simpa using hW'.lt x (by simp [hx])
  have l4 : ∀ x ∈ p4, x.block < W.heap.size := fun x hx => by simpa using hW'.lt x (by simp [hx])
  have l5 : ∀ x ∈ p5, x.block < W.heap.size := fun x hx => by simpa using hW'.lt x (by simp [hx])
  have hlaw := law7 begun18 c0 c1 k2 b2 c2 k3 b3 c3 c4 c5
  refine (pure_calls hlaw ⟨_, Tryz.func7, rfl, by decide⟩ M0 W #[v0, v1, v2, v3, v4, v5] rfl (fun j x v hx hv => ?_)).mono fun e W2 hres => ?_
  · match j, hx, hv with
    | 0, hx, hv => cases hx; cases hv; exact f0
    | 1, hx, hv => cases hx; cases hv; exact f1
    | 2, hx, hv => cases hx; cases hv; exact f2
    | 3, hx, hv => cases hx; cases hv; exact f3
    | 4, hx, hv => cases hx; cases hv; exact f4
    | 5, hx, hv => cases hx; cases hv; exact f5
    | j + 6, hx, hv => simp at hx
  obtain ⟨v, X, rfl, hXw, hv, _, hb⟩ := hres
  have hvb := Flat.boolv hv
  subst hvb
  exact ⟨_, rfl, _, _, _, [], _, [], hW', trodAll_mk1 (shutB true), ⟨_, _, Below.trod laid0 (by kernel_rfl) (of_decide_eq_true (by kernel_rfl)) h0 hb l0, ⟨_, _, Below.trod laid0 (by kernel_rfl) (of_decide_eq_true (by kernel_rfl)) h1 hb l1, ⟨_, _, Below.trod laid0 (by kernel_rfl) (of_decide_eq_true (by kernel_rfl)) h2 hb l2, ⟨_, _, Below.trod laid0 (by kernel_rfl) (of_decide_eq_true (by kernel_rfl)) h3 hb l3, ⟨_, _, Below.trod laid0 (by kernel_rfl) (of_decide_eq_true (by kernel_rfl)) h4 hb l4, ⟨_, _, Below.trod laid0 (by kernel_rfl) (of_decide_eq_true (by kernel_rfl)) h5 hb l5, rfl, rfl⟩, rfl⟩, rfl⟩, rfl⟩, rfl⟩, rfl⟩, rfl, hb.frame _, fun h => by cases h⟩
theorem planAll_q1 : (Rows.planAllRow.inPlace == Tryz.prog.inPlace 7) = true := by kernel_rfl
theorem planAll_q2 : (Rows.planAllRow.unfollowed == Tryz.prog.unfollowed 7) = true := by kernel_rfl
theorem planAll_q3 : (Rows.planAllRow.recurses == Tryz.prog.recurses 7) = true := by kernel_rfl
theorem planAll_q4 : (Rows.planAllRow.named == Tryz.prog.varsNamed 7) = true := by kernel_rfl
theorem planAll_closed : joinedFacts Tryz.prog 7 Tryz.f7 Rows.planAllSpec Rows.planAllRow = true := by
  unfold joinedFacts
  repeat' (with_reducible refine and_tt ?_ ?_)
  all_goals first | with_reducible exact planAll_q1 | with_reducible exact planAll_q2 | with_reducible exact planAll_q3 | with_reducible exact planAll_q4 | kernel_rfl
theorem planAll_nm : Tryz.prog.funcNamed "hortator/hortatorlaw14.PlanAll" = some 7 := by kernel_rfl
theorem planAll_inst : Tryz.f7.isInstance Tryz.prog Rows.planAllRow.origin Rows.planAllRow.targs := of_decide_eq_true (by kernel_rfl)
theorem planAll_wrap : Tryz.f7.isWrapper Tryz.prog Rows.planAllRow.wrapper Rows.planAllRow.mainSum := by unfold Func.isWrapper; first | (rw [if_pos (by decide +kernel)]; kernel_rfl) | (rw [if_neg (by decide +kernel)]; exact ⟨rfl, rfl⟩)
theorem planAll_row : Rows.PlanAllSaid :=
  OpenClaim.holds_of_wide (p := Tryz.pinned) 7 Tryz.f7 rfl rfl rfl rfl rfl rfl rfl ⟨rfl, rfl, rfl, rfl, rfl⟩ rfl rfl rfl rfl rfl planAll_nm Tryz.func7 planAll_closed planAll_inst planAll_wrap
    (fun os started H enc _ => planAll_lifted os started H enc)
theorem planAll_wf : Rows.planAllRow.wfByText (OpenSpec.ofChange Rows.planAllSpec) = true := by kernel_rfl
theorem planAll_goes : false = Rows.planAllRow.goesBy Tryz.prog := by kernel_rfl
theorem planAll_holds : Rows.PlanAllCardSaid :=
  Claim7.holds_tied_plain_at (p := Tryz.pinned) .later [] [.data, .data, .data, .data, .sentinel, .sentinel, .pinned] true (true, mainSum) true
    planAll_row (fun _ h => by cases h) planAll_wf (fun _ h => by cases h) planAll_row_tie rfl ⟨rfl, rfl⟩ mainIs0 rfl
    (fun f fn hf hfn => by
      obtain rfl : f = 7 := Option.some.inj (planAll_nm.symm.trans hf) |>.symm
      obtain rfl : fn = Tryz.f7 := (Option.some.inj (Tryz.func7.symm.trans hfn)).symm
      exact ⟨looks0, fun j t ht => by
        have hps : Tryz.f7.params = #[24, 28, 38, 38, 3, 2] := by kernel_rfl
        rw [hps] at ht
        match j, ht with
        | 0, ht => cases ht; exact stand24
        | 1, ht => cases ht; exact stand28
        | 2, ht => cases ht; exact stand38
        | 3, ht => cases ht; exact stand38
        | 4, ht => cases ht; exact stand3
        | 5, ht => cases ht; exact stand2
        | j + 6, ht => simp at ht⟩)
    planAll_goes
end Go.Proofs.YtkjghcbnmipgfaaGreatDoor
