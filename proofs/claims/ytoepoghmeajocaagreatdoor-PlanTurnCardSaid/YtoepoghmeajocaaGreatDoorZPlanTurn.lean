/- The law PlanTurn: from its contract to the row and the card. No condition. -/
import Derived.Test.YtoepoghmeajocaaGreatDoorRows
import Derived.Test.YtoepoghmeajocaaGreatDoorCards
import Derived.Test.YtoepoghmeajocaaGreatDoorTie
import Derived.Test.YtoepoghmeajocaaGreatDoorQ13
import Derived.Test.YtoepoghmeajocaaGreatDoorQ20
set_option linter.unnecessarySimpa false
set_option linter.unusedSectionVars false
set_option linter.unusedSimpArgs false
set_option linter.unusedVariables false
set_option maxRecDepth 100000
namespace Go.Proofs.YtoepoghmeajocaaGreatDoor
open Go.ChangeShapes Go.WideShapes Go.ChangeAt Go.RowKit Vc
theorem planTurn_lifted (os : Os) (started : os.Started) (H : Type) (enc : TypeId × Value → H) :
  ReturnsInHanded {} Tryz.checked os 3 .any (fun w args => (Rows.planTurnSpec.pre enc Tryz.prog Tryz.f3 [] false w args ∧ laidMetH Tryz.prog laidA w) ∧ sizedMet enc Tryz.prog Tryz.f3 (OpenSpec.ofChange Rows.planTurnSpec) false w args)
   (Rows.planTurnSpec.post enc Tryz.prog Tryz.f3 false true false false) := by
 refine returnsInHanded_of_change_and (C := Tryz.checked) (X := fun w _ => laidMetH Tryz.prog laidA w) (fun _ _ _ hh h => h.of_heap hh) own0 started (by kernel_rfl) Tryz.func3
  (ChangeSpec.witness_shaped (enc := enc) (C := Tryz.checked) (os := os) (X := fun w _ => laidMetH Tryz.prog laidA w) false (World.laidAll Tryz.prog os laidA) #[.agg #[.int .i64 0, .int .i64 0, .int .i64 0, .int .i64 0, .slice none 0 0], .slice none 0 0, .agg #[.int .i64 0, .int .i64 0, .int .i64 0, .slice none 0 0], .int .i64 0, .int .i64 0] 8 (World.laidAll_os _ _ _) (World.shaped_of_ZipB (by kernel_rfl) (by kernel_rfl)) (by kernel_rfl) (by kernel_rfl) (by kernel_rfl) (door_met os _)) ?_
 intro W base args ds gs before hval0 hW _ _ _ _
 have hval : ∀ (j : Nat) t v, Tryz.f3.params[j]? = some t → args[j]? = some v → Value.okWide Tryz.prog W .any base t v := hval0
 have hW' := hW
 obtain ⟨p, q, hA0, hV, rfl, hfz, hnd⟩ := hW
 have hA : DataW.TrodAll enc Tryz.prog W 0 (fun _ => true) true Tryz.f3.params.toList args.toList ds p := hA0
 have hps : Tryz.f3.params = #[24, 25, 28, 3, 2] := by kernel_rfl
 rw [hps] at hA hval
 obtain ⟨argl⟩ := args
 obtain ⟨v0, w0, d0, e0, p0, q0, rfl, rfl, rfl, h0, hA⟩ := trodC hA
 obtain ⟨v1, w1, d1, e1, p1, q1, rfl, rfl, rfl, h1, hA⟩ := trodC hA
 obtain ⟨v2, w2, d2, e2, p2, q2, rfl, rfl, rfl, h2, hA⟩ := trodC hA
 obtain ⟨v3, w3, d3, e3, p3, q3, rfl, rfl, rfl, h3, hA⟩ := trodC hA
 obtain ⟨v4, w4, d4, e4, p4, q4, rfl, rfl, rfl, h4, hA⟩ := trodC hA
 obtain ⟨rfl, rfl, rfl⟩ := trodN hA
 obtain ⟨rfl, rfl⟩ := trodVars_none hV
 obtain ⟨x0, r0, f0⟩ := rd_arg (n := 12) ok24 h0 (fun _ => rfl) (hval 0 24 v0 rfl rfl) (len_of ok24 (hval 0 24 v0 rfl rfl))
 rw [s24] at f0
 obtain ⟨x1, r1, f1⟩ := rd_arg (n := 12) ok25 h1 (fun _ => rfl) (hval 1 25 v1 rfl rfl) (len_of ok25 (hval 1 25 v1 rfl rfl))
 rw [s25] at f1
 obtain ⟨x2, r2, f2⟩ := rd_arg (n := 12) ok28 h2 (fun _ => rfl) (hval 2 28 v2 rfl rfl) (len_of ok28 (hval 2 28 v2 rfl rfl))
 rw [s28] at f2
 obtain ⟨x3, r3, f3⟩ := rd_arg (n := 12) ok3 h3 (fun _ => rfl) (hval 3 3 v3 rfl rfl) (len_of ok3 (hval 3 3 v3 rfl rfl))
 rw [s3] at f3
 obtain ⟨x4, r4, f4⟩ := rd_arg (n := 12) ok2 h4 (fun _ => rfl) (hval 4 2 v4 rfl rfl) (len_of ok2 (hval 4 2 v4 rfl rfl))
 rw [s2] at f4
 obtain ⟨c0, a0, n0⟩ := rdCf r0
 rw [a0] at f0
 obtain ⟨b1, c1, a1, n1, m1⟩ := rdLL r1
 rw [a1] at f1
 obtain ⟨c2, a2, n2⟩ := rdTk r2
 rw [a2] at f2
 obtain ⟨c3, a3⟩ := rd_int u3 r3
 rw [a3] at f3
 obtain ⟨c4, a4⟩ := rd_int u2 r4
 rw [a4] at f4
 simp only [List.append_nil] at hW'
 have l0 : ∀ x ∈ p0, x.block < W.heap.size := fun x hx => by simpa using hW'.lt x (by simp [hx])
 have l1 : ∀ x ∈ p1, x.block < W.heap.size := fun x hx => by simpa using hW'.lt x (by simp [hx])
 have l2 : ∀ x ∈ p2, x.block < W.heap.size := fun x hx => by simpa using hW'.lt x (by simp [hx])
 have l3 : ∀ x ∈ p3, x.block < W.heap.size := fun x hx => by simpa using hW'.lt x (by simp [hx])
 have l4 : ∀ x ∈ p4, x.block < W.heap.size := fun x hx => by simpa using hW'.lt x (by simp [hx])
 have hlaw := lawPT c0 b1 c1 c2 c3 c4
 refine (pure_calls hlaw ⟨_, Tryz.func3, rfl, by decide⟩ M0 W #[v0, v1, v2, v3, v4] rfl (fun j x v hx hv => ?_)).mono fun e W2 hres => ?_
 ·match j, hx, hv with
  | 0, hx, hv => cases hx; cases hv; exact f0
  | 1, hx, hv => cases hx; cases hv; exact f1
  | 2, hx, hv => cases hx; cases hv; exact f2
  | 3, hx, hv => cases hx; cases hv; exact f3
  | 4, hx, hv => cases hx; cases hv; exact f4
  | j + 5, hx, hv => simp at hx
 obtain ⟨v, X, rfl, hXw, hv, _, hb⟩ := hres
 have hvb := Flat.boolv hv
 subst hvb
 exact ⟨_, rfl, _, _, _, [], _, [], hW', trodAll_mk1 (shutB true), ⟨_, _, Below.trod laid0 (by kernel_rfl) (of_decide_eq_true (by kernel_rfl)) h0 hb l0, ⟨_, _, Below.trod laid0 (by kernel_rfl) (of_decide_eq_true (by kernel_rfl)) h1 hb l1, ⟨_, _, Below.trod laid0 (by kernel_rfl) (of_decide_eq_true (by kernel_rfl)) h2 hb l2, ⟨_, _, Below.trod laid0 (by kernel_rfl) (of_decide_eq_true (by kernel_rfl)) h3 hb l3, ⟨_, _, Below.trod laid0 (by kernel_rfl) (of_decide_eq_true (by kernel_rfl)) h4 hb l4, rfl, rfl⟩, rfl⟩, rfl⟩, rfl⟩, rfl⟩, rfl, hb.frame _, fun h => by cases h⟩
theorem planTurn_q1 : (Rows.planTurnRow.inPlace == Tryz.prog.inPlace 3) = true := by kernel_rfl
theorem planTurn_q2 : (Rows.planTurnRow.unfollowed == Tryz.prog.unfollowed 3) = true := by kernel_rfl
theorem planTurn_q3 : (Rows.planTurnRow.recurses == Tryz.prog.recurses 3) = true := by kernel_rfl
theorem planTurn_q4 : (Rows.planTurnRow.named == Tryz.prog.varsNamed 3) = true := by kernel_rfl
theorem planTurn_closed : joinedFacts Tryz.prog 3 Tryz.f3 Rows.planTurnSpec Rows.planTurnRow = true := by
 unfold joinedFacts
 repeat' (with_reducible refine and_tt ?_ ?_)
 all_goals first | with_reducible exact planTurn_q1 | with_reducible exact planTurn_q2 | with_reducible exact planTurn_q3 | with_reducible exact planTurn_q4 | kernel_rfl
theorem planTurn_nm : Tryz.prog.funcNamed "hortator/hortatorlaw14.PlanTurn" = some 3 := by kernel_rfl
theorem planTurn_inst : Tryz.f3.isInstance Tryz.prog Rows.planTurnRow.origin Rows.planTurnRow.targs := of_decide_eq_true (by kernel_rfl)
theorem planTurn_wrap : Tryz.f3.isWrapper Tryz.prog Rows.planTurnRow.wrapper Rows.planTurnRow.mainSum := by unfold Func.isWrapper; first | (rw [if_pos (by decide +kernel)]; kernel_rfl) | (rw [if_neg (by decide +kernel)]; exact ⟨rfl, rfl⟩)
theorem planTurn_row : Rows.PlanTurnSaid :=
 OpenClaim.holds_of_wide (p := Tryz.pinned) 3 Tryz.f3 rfl rfl rfl rfl rfl rfl rfl ⟨rfl, rfl, rfl, rfl, rfl⟩ rfl rfl rfl rfl rfl planTurn_nm Tryz.func3 planTurn_closed planTurn_inst planTurn_wrap
  (fun os started H enc _ => planTurn_lifted os started H enc)
theorem planTurn_wf : Rows.planTurnRow.wfByText (OpenSpec.ofChange Rows.planTurnSpec) = true := by kernel_rfl
theorem planTurn_goes : false = Rows.planTurnRow.goesBy Tryz.prog := by kernel_rfl
theorem planTurn_holds : Rows.PlanTurnCardSaid :=
 Claim7.holds_tied_plain_at (p := Tryz.pinned) .later [] [.data, .data, .data, .data, .sentinel, .sentinel, .pinned] true (true, mainSum) true
  planTurn_row (fun _ h => by cases h) planTurn_wf (fun _ h => by cases h) planTurn_row_tie rfl ⟨rfl, rfl⟩ mainIs0 rfl
  (fun f fn hf hfn => by
   obtain rfl : f = 3 := Option.some.inj (planTurn_nm.symm.trans hf) |>.symm
   obtain rfl : fn = Tryz.f3 := (Option.some.inj (Tryz.func3.symm.trans hfn)).symm
   exact ⟨looks0, fun j t ht => by
    have hps : Tryz.f3.params = #[24, 25, 28, 3, 2] := by kernel_rfl
    rw [hps] at ht
    match j, ht with
    | 0, ht => cases ht; exact stand24
    | 1, ht => cases ht; exact stand25
    | 2, ht => cases ht; exact stand28
    | 3, ht => cases ht; exact stand3
    | 4, ht => cases ht; exact stand2
    | j + 5, ht => simp at ht⟩)
  planTurn_goes
end Go.Proofs.YtoepoghmeajocaaGreatDoor
