/- The law AdmitNone: from its contract to the row and the card. No condition. -/
import Derived.Test.YtoepoghmeajocaaGreatDoorRows
import Derived.Test.YtoepoghmeajocaaGreatDoorCards
import Derived.Test.YtoepoghmeajocaaGreatDoorTie
import Derived.Test.YtoepoghmeajocaaGreatDoorQ11
import Derived.Test.YtoepoghmeajocaaGreatDoorQ15
set_option linter.unnecessarySimpa false
set_option linter.unusedSectionVars false
set_option linter.unusedSimpArgs false
set_option linter.unusedVariables false
set_option maxRecDepth 100000
namespace Go.Proofs.YtoepoghmeajocaaGreatDoor
open Go.ChangeShapes Go.WideShapes Go.ChangeAt Go.RowKit Vc
theorem admitNone_lifted (os : Os) (started : os.Started) (H : Type) (enc : TypeId × Value → H) :
    ReturnsInHanded {} Tryz.checked os 14 .any (fun w args => (Rows.admitNoneSpec.pre enc Tryz.prog Tryz.f14 [] false w args ∧ laidMetH Tryz.prog laidA w) ∧ sizedMet enc Tryz.prog Tryz.f14 (OpenSpec.ofChange Rows.admitNoneSpec) false w args)
      (Rows.admitNoneSpec.post enc Tryz.prog Tryz.f14 false true false false) := by
  refine returnsInHanded_of_change_and (C := Tryz.checked) (X := fun w _ => laidMetH Tryz.prog laidA w) (fun _ _ _ hh h => h.of_heap hh) own0 started (by kernel_rfl) Tryz.func14
    (ChangeSpec.witness_shaped (enc := enc) (C := Tryz.checked) (os := os) (X := fun w _ => laidMetH Tryz.prog laidA w) false (World.laidAll Tryz.prog os laidA) #[] 8 (World.laidAll_os _ _ _) (World.shaped_of_ZipB (by kernel_rfl) (by kernel_rfl)) (by kernel_rfl) (by kernel_rfl) (by kernel_rfl) (door_met os _)) ?_
  intro W base args ds gs before hval0 hW _ _ _ _
  have hval : ∀ (j : Nat) t v, Tryz.f14.params[j]? = some t → args[j]? = some v → Value.okWide Tryz.prog W .any base t v := hval0
  have hW' := hW
  obtain ⟨p, q, hA0, hV, rfl, hfz, hnd⟩ := hW
  have hA : DataW.TrodAll enc Tryz.prog W 0 (fun _ => true) true Tryz.f14.params.toList args.toList ds p := hA0
  have hps : Tryz.f14.params = #[] := by kernel_rfl
  rw [hps] at hA hval
  obtain ⟨argl⟩ := args
  obtain ⟨rfl, rfl, rfl⟩ := trodN hA
  obtain ⟨rfl, rfl⟩ := trodVars_none hV
  simp only [List.append_nil] at hW'
  have hlaw := noneR 
  refine (pure_calls hlaw ⟨_, Tryz.func14, rfl, by decide⟩ M0 W #[] rfl (fun j x v hx hv => ?_)).mono fun e W2 hres => ?_
  · match j, hx, hv with
    | j + 0, hx, hv => simp at hx
  obtain ⟨v, X, rfl, hXw, hv, _, hb⟩ := hres
  have hvb := Flat.boolv hv
  subst hvb
  exact ⟨_, rfl, _, _, _, [], _, [], hW', trodAll_mk1 (shutB true), rfl, rfl, hb.frame _, fun h => by cases h⟩
theorem admitNone_q1 : (Rows.admitNoneRow.inPlace == Tryz.prog.inPlace 14) = true := by kernel_rfl
theorem admitNone_q2 : (Rows.admitNoneRow.unfollowed == Tryz.prog.unfollowed 14) = true := by kernel_rfl
theorem admitNone_q3 : (Rows.admitNoneRow.recurses == Tryz.prog.recurses 14) = true := by kernel_rfl
theorem admitNone_q4 : (Rows.admitNoneRow.named == Tryz.prog.varsNamed 14) = true := by kernel_rfl
theorem admitNone_closed : joinedFacts Tryz.prog 14 Tryz.f14 Rows.admitNoneSpec Rows.admitNoneRow = true := by
  unfold joinedFacts
  repeat' (with_reducible refine and_tt ?_ ?_)
  all_goals first | with_reducible exact admitNone_q1 | with_reducible exact admitNone_q2 | with_reducible exact admitNone_q3 | with_reducible exact admitNone_q4 | kernel_rfl
theorem admitNone_nm : Tryz.prog.funcNamed "hortator/hortatorlaw18.AdmitNone" = some 14 := by kernel_rfl
theorem admitNone_inst : Tryz.f14.isInstance Tryz.prog Rows.admitNoneRow.origin Rows.admitNoneRow.targs := of_decide_eq_true (by kernel_rfl)
theorem admitNone_wrap : Tryz.f14.isWrapper Tryz.prog Rows.admitNoneRow.wrapper Rows.admitNoneRow.mainSum := by unfold Func.isWrapper; first | (rw [if_pos (by decide +kernel)]; kernel_rfl) | (rw [if_neg (by decide +kernel)]; exact ⟨rfl, rfl⟩)
theorem admitNone_row : Rows.AdmitNoneSaid :=
  OpenClaim.holds_of_wide (p := Tryz.pinned) 14 Tryz.f14 rfl rfl rfl rfl rfl rfl rfl ⟨rfl, rfl, rfl, rfl, rfl⟩ rfl rfl rfl rfl rfl admitNone_nm Tryz.func14 admitNone_closed admitNone_inst admitNone_wrap
    (fun os started H enc _ => admitNone_lifted os started H enc)
theorem admitNone_wf : Rows.admitNoneRow.wfByText (OpenSpec.ofChange Rows.admitNoneSpec) = true := by kernel_rfl
theorem admitNone_goes : false = Rows.admitNoneRow.goesBy Tryz.prog := by kernel_rfl
theorem admitNone_holds : Rows.AdmitNoneCardSaid :=
  Claim7.holds_tied_plain_at (p := Tryz.pinned) .later [] [.data, .data, .data, .data, .sentinel, .sentinel, .pinned] true (true, mainSum) true
    admitNone_row (fun _ h => by cases h) admitNone_wf (fun _ h => by cases h) admitNone_row_tie rfl ⟨rfl, rfl⟩ mainIs0 rfl
    (fun f fn hf hfn => by
      obtain rfl : f = 14 := Option.some.inj (admitNone_nm.symm.trans hf) |>.symm
      obtain rfl : fn = Tryz.f14 := (Option.some.inj (Tryz.func14.symm.trans hfn)).symm
      exact ⟨looks0, fun j t ht => by
        have hps : Tryz.f14.params = #[] := by kernel_rfl
        rw [hps] at ht
        match j, ht with
        | j + 0, ht => simp at ht⟩)
    admitNone_goes
end Go.Proofs.YtoepoghmeajocaaGreatDoor
