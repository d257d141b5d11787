/- The law JobNone: from its contract to the row and the card. No condition. -/
import Derived.Test.YtnjphclbpgajpaaGreatDoorRows
import Derived.Test.YtnjphclbpgajpaaGreatDoorCards
import Derived.Test.YtnjphclbpgajpaaGreatDoorTie
import Derived.Test.YtnjphclbpgajpaaGreatDoorQ12
import Derived.Test.YtnjphclbpgajpaaGreatDoorQ20
set_option linter.unnecessarySimpa false
set_option linter.unusedSectionVars false
set_option linter.unusedSimpArgs false
set_option linter.unusedVariables false
set_option maxRecDepth 100000
namespace Go.Proofs.YtnjphclbpgajpaaGreatDoor
open Go.ChangeShapes Go.WideShapes Go.ChangeAt Go.RowKit Vc
theorem jobNone_lifted (os : Os) (started : os.Started) (H : Type) (enc : TypeId × Value → H) :
  ReturnsInHanded {} Tryz.checked os 14 .any (fun w args => (Rows.jobNoneSpec.pre enc Tryz.prog Tryz.f14 [] false w args ∧ laidMetH Tryz.prog laidA w) ∧ sizedMet enc Tryz.prog Tryz.f14 (OpenSpec.ofChange Rows.jobNoneSpec) false w args)
   (Rows.jobNoneSpec.post enc Tryz.prog Tryz.f14 false true false false) := by
 refine returnsInHanded_of_change_and (C := Tryz.checked) (X := fun w _ => laidMetH Tryz.prog laidA w) (fun _ _ _ hh h => h.of_heap hh) own0 started (by kernel_rfl) Tryz.func14
  (ChangeSpec.witness_shaped (enc := enc) (C := Tryz.checked) (os := os) (X := fun w _ => laidMetH Tryz.prog laidA w) false (World.laidAll Tryz.prog os laidA) #[] 8 (World.laidAll_os _ _ _) (World.shaped_of_ZipB (by kernel_rfl) (by kernel_rfl)) (by kernel_rfl) (by kernel_rfl) (by kernel_rfl) (door_met os _)) ?_
 intro W base args ds gs before hval0 hW _ _ _ _
 have hval : ∀ (j : Nat) t v, Tryz.f14.params[j]? = some t → args[j]? = some v → Value.okWide Tryz.prog W .any base t v := hval0
 have hW' := hW
 obtain ⟨p, q, hA0, hV, rfl, hfz, hnd⟩ := hW
 have hA : DataW.TrodAll enc Tryz.prog W 0 (fun _ => true) true Tryz.f14.params.toList args.toList ds p := hA0
 have hps : Tryz.f14.params = #[] := by kernel_rfl
 rw [hps] at hA hval
 obtain ⟨argl⟩ := args
 obtain ⟨rfl, rfl, rfl⟩ := trodN hA
 obtain ⟨rfl, rfl⟩ := trodVars_none hV
 simp only [List.append_nil] at hW'
 have hlaw := lawJN 
 refine (pure_calls hlaw ⟨_, Tryz.func14, rfl, by decide⟩ M0 W #[] rfl (fun j x v hx hv => ?_)).mono fun e W2 hres => ?_
 ·match j, hx, hv with
  | j + 0, hx, hv => simp at hx
 obtain ⟨v, X, rfl, hXw, hv, _, hb⟩ := hres
 have hvb := Flat.boolv hv
 subst hvb
 exact ⟨_, rfl, _, _, _, [], _, [], hW', trodAll_mk1 (shutB true), rfl, rfl, hb.frame _, fun h => by cases h⟩
theorem jobNone_q1 : (Rows.jobNoneRow.inPlace == Tryz.prog.inPlace 14) = true := by kernel_rfl
theorem jobNone_q2 : (Rows.jobNoneRow.unfollowed == Tryz.prog.unfollowed 14) = true := by kernel_rfl
theorem jobNone_q3 : (Rows.jobNoneRow.recurses == Tryz.prog.recurses 14) = true := by kernel_rfl
theorem jobNone_q4 : (Rows.jobNoneRow.named == Tryz.prog.varsNamed 14) = true := by kernel_rfl
theorem jobNone_closed : joinedFacts Tryz.prog 14 Tryz.f14 Rows.jobNoneSpec Rows.jobNoneRow = true := by
 unfold joinedFacts
 repeat' (with_reducible refine and_tt ?_ ?_)
 all_goals first | with_reducible exact jobNone_q1 | with_reducible exact jobNone_q2 | with_reducible exact jobNone_q3 | with_reducible exact jobNone_q4 | kernel_rfl
theorem jobNone_nm : Tryz.prog.funcNamed "hortator/hortatorlaw19.JobNone" = some 14 := by kernel_rfl
theorem jobNone_inst : Tryz.f14.isInstance Tryz.prog Rows.jobNoneRow.origin Rows.jobNoneRow.targs := of_decide_eq_true (by kernel_rfl)
theorem jobNone_wrap : Tryz.f14.isWrapper Tryz.prog Rows.jobNoneRow.wrapper Rows.jobNoneRow.mainSum := by unfold Func.isWrapper; first | (rw [if_pos (by decide +kernel)]; kernel_rfl) | (rw [if_neg (by decide +kernel)]; exact ⟨rfl, rfl⟩)
theorem jobNone_row : Rows.JobNoneSaid :=
 OpenClaim.holds_of_wide (p := Tryz.pinned) 14 Tryz.f14 rfl rfl rfl rfl rfl rfl rfl ⟨rfl, rfl, rfl, rfl, rfl⟩ rfl rfl rfl rfl rfl jobNone_nm Tryz.func14 jobNone_closed jobNone_inst jobNone_wrap
  (fun os started H enc _ => jobNone_lifted os started H enc)
theorem jobNone_wf : Rows.jobNoneRow.wfByText (OpenSpec.ofChange Rows.jobNoneSpec) = true := by kernel_rfl
theorem jobNone_goes : false = Rows.jobNoneRow.goesBy Tryz.prog := by kernel_rfl
theorem jobNone_holds : Rows.JobNoneCardSaid :=
 Claim7.holds_tied_plain_at (p := Tryz.pinned) .later [] [.data, .data, .data, .data, .sentinel, .sentinel, .pinned] true (true, mainSum) true
  jobNone_row (fun _ h => by cases h) jobNone_wf (fun _ h => by cases h) jobNone_row_tie rfl ⟨rfl, rfl⟩ mainIs0 rfl
  (fun f fn hf hfn => by
   obtain rfl : f = 14 := Option.some.inj (jobNone_nm.symm.trans hf) |>.symm
   obtain rfl : fn = Tryz.f14 := (Option.some.inj (Tryz.func14.symm.trans hfn)).symm
   exact ⟨looks0, fun j t ht => by
    have hps : Tryz.f14.params = #[] := by kernel_rfl
    rw [hps] at ht
    match j, ht with
    | j + 0, ht => simp at ht⟩)
  jobNone_goes
end Go.Proofs.YtnjphclbpgajpaaGreatDoor
