/- The law AgentTimes: from its contract to the row and the card. No condition. -/
import Derived.Test.YtnjphclbpgajpaaGreatDoorRows
import Derived.Test.YtnjphclbpgajpaaGreatDoorCards
import Derived.Test.YtnjphclbpgajpaaGreatDoorTie
import Derived.Test.YtnjphclbpgajpaaGreatDoorX09
import Derived.Test.YtnjphclbpgajpaaGreatDoorYAgentTimes
set_option linter.unnecessarySimpa false
set_option linter.unusedSectionVars false
set_option linter.unusedSimpArgs false
set_option linter.unusedVariables false
set_option maxRecDepth 100000
namespace Go.Proofs.YtnjphclbpgajpaaGreatDoor
open Go.ChangeShapes Go.WideShapes Go.ChangeAt Go.RowKit Vc
theorem agentTimes_lifted(os:Os)(started:os.Started)(H:Type)(enc:TypeId×Value->H) :
  ReturnsInHanded {} Tryz.checked os 11 .any (fun w args=>(Rows.agentTimesSpec.pre enc Tryz.prog Tryz.f11 [] false w args/\laidMetH Tryz.prog eF w)/\sizedMet enc Tryz.prog Tryz.f11 (OpenSpec.ofChange Rows.agentTimesSpec) false w args)
   (Rows.agentTimesSpec.post enc Tryz.prog Tryz.f11 false true false false):=by
 refine returnsInHanded_of_change_and (C:=Tryz.checked) (X:=fun w _=>laidMetH Tryz.prog eF w) (fun _ _ _ hh h=>h.of_heap hh) MQ started (by kernel_rfl) Tryz.func11
  (ChangeSpec.witness_shaped (enc:=enc) (C:=Tryz.checked) (os:=os) (X:=fun w _=>laidMetH Tryz.prog eF w) false (World.laidAll Tryz.prog os eF) #[.slice none 0 0] 8 (World.laidAll_os _ _ _) (World.shaped_of_ZipB (by kernel_rfl) (by kernel_rfl)) (by kernel_rfl) (by kernel_rfl) (by kernel_rfl) (oX os _)) ?_
 intro W base args ds gs before hval0 hW _ _ _ _;have hval:∀(j:Nat) t v,Tryz.f11.params[j]?=some t->args[j]?=some v->Value.okWide Tryz.prog W .any base t v:=hval0;have hW':=hW;obtain⟨p,q,hA0,hV,rfl,hfz,hnd⟩:=hW;have hA:DataW.TrodAll enc Tryz.prog W 0 (fun _=>true) true Tryz.f11.params.toList args.toList ds p:=hA0
 have hps:Tryz.f11.params = #[66]:=by kernel_rfl
 rw[hps] at hA hval;obtain⟨argl⟩:=args;obtain⟨v0,w0,d0,e0,p0,q0,rfl,rfl,rfl,h0,hA⟩:=mS hA;obtain⟨rfl,rfl,rfl⟩:=FT hA;obtain⟨rfl,rfl⟩:=trodVars_none hV;obtain⟨x0,r0,f0⟩:=iN (n:=12) IE h0 (fun _=>rfl) (hval 0 66 v0 rfl rfl) (iQ IE (hval 0 66 v0 rfl rfl))
 rw[ZD] at f0;obtain⟨b0,c0,a0,n0⟩:=JJ r0;rw[a0] at f0;simp only[List.append_nil] at hW';have l0:∀x∈p0,x.block<W.heap.size:=fun x hx=>by simpa using hW'.lt x (by simp[hx])
 have hlaw:=NU b0 c0;refine(jX hlaw ⟨_,Tryz.func11,rfl,by decide⟩ M0 W #[v0] rfl (fun j x v hx hv=>?_)).mono fun e W2 hres=>?_
 ·match j,hx,hv with
  |0,hx,hv=>cases hx;cases hv;exact f0
  |j+1,hx,hv=>simp at hx
 obtain⟨v,X,rfl,hXw,hv,_,hb⟩:=hres;have hvb:=Flat.boolv hv;subst hvb;exact⟨_,rfl,_,_,_,[],_,[],hW',trodAll_mk1 (FB true),⟨_,_,Below.trod mO (by kernel_rfl) (of_decide_eq_true (by kernel_rfl)) h0 hb l0,rfl,rfl⟩,rfl,hb.frame _,fun h=>by cases h⟩
theorem w7:(Rows.agentTimesRow.inPlace ==Tryz.prog.inPlace 11)=true:=by kernel_rfl
theorem wF:(Rows.agentTimesRow.unfollowed ==Tryz.prog.unfollowed 11)=true:=by kernel_rfl
theorem vM:(Rows.agentTimesRow.recurses ==Tryz.prog.recurses 11)=true:=by kernel_rfl
theorem vW:(Rows.agentTimesRow.named ==Tryz.prog.varsNamed 11)=true:=by kernel_rfl
theorem nV:joinedFacts Tryz.prog 11 Tryz.f11 Rows.agentTimesSpec Rows.agentTimesRow=true:=by
 unfold joinedFacts
 repeat' (with_reducible refine yR ?_ ?_)
 all_goals first|with_reducible exact w7|with_reducible exact wF|with_reducible exact vM|with_reducible exact vW|kernel_rfl
theorem agentTimes_nm:Tryz.prog.funcNamed "hortator/hortatorlaw19.AgentTimes" = some 11:=by kernel_rfl
theorem rQ:Tryz.f11.isInstance Tryz.prog Rows.agentTimesRow.origin Rows.agentTimesRow.targs:=of_decide_eq_true (by kernel_rfl)
theorem rO:Tryz.f11.isWrapper Tryz.prog Rows.agentTimesRow.wrapper Rows.agentTimesRow.mainSum:=by unfold Func.isWrapper;first|(rw[if_pos (by decide +kernel)];kernel_rfl)|(rw[if_neg (by decide +kernel)];exact⟨rfl,rfl⟩)
theorem agentTimes_row:Rows.AgentTimesSaid :=
 OpenClaim.holds_of_wide (p:=Tryz.pinned) 11 Tryz.f11 rfl rfl rfl rfl rfl rfl rfl ⟨rfl,rfl,rfl,rfl,rfl⟩ rfl rfl rfl rfl rfl agentTimes_nm Tryz.func11 nV rQ rO
  (fun os started H enc _=>agentTimes_lifted os started H enc)
theorem vX:Rows.agentTimesRow.wfByText (OpenSpec.ofChange Rows.agentTimesSpec)=true:=by kernel_rfl
theorem rR:false=Rows.agentTimesRow.goesBy Tryz.prog:=by kernel_rfl
theorem agentTimes_holds:Rows.AgentTimesCardSaid :=
 Claim7.holds_tied_plain_at (p:=Tryz.pinned) .later [] [.data,.data,.data,.data,.sentinel,.sentinel,.pinned] true (true,mainSum) true
  agentTimes_row (fun _ h=>by cases h) vX (fun _ h=>by cases h) agentTimes_row_tie rfl ⟨rfl,rfl⟩ sD rfl
  (fun f fn hf hfn => by
   obtain rfl:f=11:=Option.some.inj (agentTimes_nm.symm.trans hf) |>.symm
   obtain rfl:fn=Tryz.f11:=(Option.some.inj (Tryz.func11.symm.trans hfn)).symm
   exact⟨yN,fun j t ht=>by
    have hps:Tryz.f11.params = #[66]:=by kernel_rfl
    rw[hps] at ht
    match j,ht with
    |0,ht=>cases ht;exact zG
    |j+1,ht=>simp at ht⟩)
  rR
end Go.Proofs.YtnjphclbpgajpaaGreatDoor
