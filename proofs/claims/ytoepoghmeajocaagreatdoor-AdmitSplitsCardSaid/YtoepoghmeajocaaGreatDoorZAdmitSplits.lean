/- The law AdmitSplits: from its contract to the row and the card. No condition. -/
import Derived.Test.YtoepoghmeajocaaGreatDoorRows
import Derived.Test.YtoepoghmeajocaaGreatDoorCards
import Derived.Test.YtoepoghmeajocaaGreatDoorTie
import Derived.Test.YtoepoghmeajocaaGreatDoorQ12
import Derived.Test.YtoepoghmeajocaaGreatDoorQ43
set_option linter.unnecessarySimpa false
set_option linter.unusedSectionVars false
set_option linter.unusedSimpArgs false
set_option linter.unusedVariables false
set_option maxRecDepth 100000
namespace Go.Proofs.YtoepoghmeajocaaGreatDoor
open Go.ChangeShapes Go.WideShapes Go.ChangeAt Go.RowKit Vc
theorem admitSplits_lifted (os : Os) (started : os.Started) (H : Type) (enc : TypeId × Value → H) :
    ReturnsInHanded {} Tryz.checked os 8 .any (fun w args => (Rows.admitSplitsSpec.pre enc Tryz.prog Tryz.f8 [] false w args ∧ laidMetH Tryz.prog laidA w) ∧ sizedMet enc Tryz.prog Tryz.f8 (OpenSpec.ofChange Rows.admitSplitsSpec) false w args)
      (Rows.admitSplitsSpec.post enc Tryz.prog Tryz.f8 false true false false) := by
  refine returnsInHanded_of_change_and (C := Tryz.checked) (X := fun w _ => laidMetH Tryz.prog laidA w) (fun _ _ _ hh h => h.of_heap hh) own0 started (by kernel_rfl) Tryz.func8
    (ChangeSpec.witness_shaped (enc := enc) (C := Tryz.checked) (os := os) (X := fun w _ => laidMetH Tryz.prog laidA w) false (World.laidAll Tryz.prog os laidA) #[.int .i64 0, .int .i64 0, .int .i64 0] 8 (World.laidAll_os _ _ _) (World.shaped_of_ZipB (by kernel_rfl) (by kernel_rfl)) (by kernel_rfl) (by kernel_rfl) (by kernel_rfl) (door_met os _)) ?_
  intro W base args ds gs before hval0 hW _ _ _ _
  have hval : ∀ (j : Nat) t v, Tryz.f8.params[j]? = some t → args[j]? = some v → Value.okWide Tryz.prog W .any base t v := hval0
  have hW' := hW
  obtain ⟨p, q, hA0, hV, rfl, hfz, hnd⟩ := hW
  have hA : DataW.TrodAll enc Tryz.prog W 0 (fun _ => true) true Tryz.f8.params.toList args.toList ds p := hA0
  have hps : Tryz.f8.params = #[3, 2, 2] := by kernel_rfl
  rw [hps] at hA hval
  obtain ⟨argl⟩ := args
  obtain ⟨v0, w0, d0, e0, p0, q0, rfl, rfl, rfl, h0, hA⟩ := trodC hA
  obtain ⟨v1, w1, d1, e1, p1, q1, rfl, rfl, rfl, h1, hA⟩ := trodC hA
  obtain ⟨v2, w2, d2, e2, p2, q2, rfl, rfl, rfl, h2, hA⟩ := trodC hA
  obtain ⟨rfl, rfl, rfl⟩ := trodN hA
  obtain ⟨rfl, rfl⟩ := trodVars_none hV
  obtain ⟨x0, r0, f0⟩ := rd_arg (n := 12) ok3 h0 (fun _ => rfl) (hval 0 3 v0 rfl rfl) (len_of ok3 (hval 0 3 v0 rfl rfl))
  rw [s3] at f0
  obtain ⟨x1, r1, f1⟩ := rd_arg (n := 12) ok2 h1 (fun _ => rfl) (hval 1 2 v1 rfl rfl) (len_of ok2 (hval 1 2 v1 rfl rfl))
  rw [s2] at f1
  obtain ⟨x2, r2, f2⟩ := rd_arg (n := 12) ok2 h2 (fun _ => rfl) (hval 2 2 v2 rfl rfl) (len_of ok2 (hval 2 2 v2 rfl rfl))
  rw [s2] at f2
  obtain ⟨c0, a0⟩ := rd_int u3 r0
  rw [a0] at f0
  obtain ⟨c1, a1⟩ := rd_int u2 r1
  rw [a1] at f1
  obtain ⟨c2, a2⟩ := rd_int u2 r2
  rw [a2] at f2
  simp only [List.append_nil] at hW'
  have l0 : ∀ x ∈ p0, x.block < W.heap.size := fun x hx => by simpa using hW'.lt x (by simp [hx])
  have l1 : ∀ x ∈ p1, x.block < W.heap.size := fun x hx => by simpa using hW'.lt x (by simp [hx])
  have l2 : ∀ x ∈ p2, x.block < W.heap.size := fun x hx => by simpa using hW'.lt x (by simp [hx])
  have hlaw := law8 c0 c1 c2
  refine (pure_calls hlaw ⟨_, Tryz.func8, rfl, by decide⟩ M0 W #[v0, v1, v2] rfl (fun j x v hx hv => ?_)).mono fun e W2 hres => ?_
  · match j, hx, hv with
    | 0, hx, hv => cases hx; cases hv; exact f0
    | 1, hx, hv => cases hx; cases hv; exact f1
    | 2, hx, hv => cases hx; cases hv; exact f2
    | j + 3, hx, hv => simp at hx
  obtain ⟨v, X, rfl, hXw, hv, _, hb⟩ := hres
  have hvb := Flat.boolv hv
  subst hvb
  exact ⟨_, rfl, _, _, _, [], _, [], hW', trodAll_mk1 (shutB true), ⟨_, _, Below.trod laid0 (by kernel_rfl) (of_decide_eq_true (by kernel_rfl)) h0 hb l0, ⟨_, _, Below.trod laid0 (by kernel_rfl) (of_decide_eq_true (by kernel_rfl)) h1 hb l1, ⟨_, _, Below.trod laid0 (by kernel_rfl) (of_decide_eq_true (by kernel_rfl)) h2 hb l2, rfl, rfl⟩, rfl⟩, rfl⟩, rfl, hb.frame _, fun h => by cases h⟩
theorem admitSplits_q1 : (Rows.admitSplitsRow.inPlace == Tryz.prog.inPlace 8) = true := by kernel_rfl
theorem admitSplits_q2 : (Rows.admitSplitsRow.unfollowed == Tryz.prog.unfollowed 8) = true := by kernel_rfl
theorem admitSplits_q3 : (Rows.admitSplitsRow.recurses == Tryz.prog.recurses 8) = true := by kernel_rfl
theorem admitSplits_q4 : (Rows.admitSplitsRow.named == Tryz.prog.varsNamed 8) = true := by kernel_rfl
theorem admitSplits_closed : joinedFacts Tryz.prog 8 Tryz.f8 Rows.admitSplitsSpec Rows.admitSplitsRow = true := by
  unfold joinedFacts
  repeat' (with_reducible refine and_tt ?_ ?_)
  all_goals first | with_reducible exact admitSplits_q1 | with_reducible exact admitSplits_q2 | with_reducible exact admitSplits_q3 | with_reducible exact admitSplits_q4 | kernel_rfl
theorem admitSplits_nm : Tryz.prog.funcNamed "hortator/hortatorlaw18.AdmitSplits" = some 8 := by kernel_rfl
theorem admitSplits_inst : Tryz.f8.isInstance Tryz.prog Rows.admitSplitsRow.origin Rows.admitSplitsRow.targs := of_decide_eq_true (by kernel_rfl)
theorem admitSplits_wrap : Tryz.f8.isWrapper Tryz.prog Rows.admitSplitsRow.wrapper Rows.admitSplitsRow.mainSum := by unfold Func.isWrapper; first | (rw [if_pos (by decide +kernel)]; kernel_rfl) | (rw [if_neg (by decide +kernel)]; exact ⟨rfl, rfl⟩)
theorem admitSplits_row : Rows.AdmitSplitsSaid :=
  OpenClaim.holds_of_wide (p := Tryz.pinned) 8 Tryz.f8 rfl rfl rfl rfl rfl rfl rfl ⟨rfl, rfl, rfl, rfl, rfl⟩ rfl rfl rfl rfl rfl admitSplits_nm Tryz.func8 admitSplits_closed admitSplits_inst admitSplits_wrap
    (fun os started H enc _ => admitSplits_lifted os started H enc)
theorem admitSplits_wf : Rows.admitSplitsRow.wfByText (OpenSpec.ofChange Rows.admitSplitsSpec) = true := by kernel_rfl
theorem admitSplits_goes : false = Rows.admitSplitsRow.goesBy Tryz.prog := by kernel_rfl
theorem admitSplits_holds : Rows.AdmitSplitsCardSaid :=
  Claim7.holds_tied_plain_at (p := Tryz.pinned) .later [] [.data, .data, .data, .data, .sentinel, .sentinel, .pinned] true (true, mainSum) true
    admitSplits_row (fun _ h => by cases h) admitSplits_wf (fun _ h => by cases h) admitSplits_row_tie rfl ⟨rfl, rfl⟩ mainIs0 rfl
    (fun f fn hf hfn => by
      obtain rfl : f = 8 := Option.some.inj (admitSplits_nm.symm.trans hf) |>.symm
      obtain rfl : fn = Tryz.f8 := (Option.some.inj (Tryz.func8.symm.trans hfn)).symm
      exact ⟨looks0, fun j t ht => by
        have hps : Tryz.f8.params = #[3, 2, 2] := by kernel_rfl
        rw [hps] at ht
        match j, ht with
        | 0, ht => cases ht; exact stand3
        | 1, ht => cases ht; exact stand2
        | 2, ht => cases ht; exact stand2
        | j + 3, ht => simp at ht⟩)
    admitSplits_goes
end Go.Proofs.YtoepoghmeajocaaGreatDoor
