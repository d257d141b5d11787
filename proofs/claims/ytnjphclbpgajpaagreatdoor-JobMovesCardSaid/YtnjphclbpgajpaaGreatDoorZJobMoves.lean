/- The law JobMoves: from its contract to the row and the card. No condition. -/
import Derived.Test.YtnjphclbpgajpaaGreatDoorRows
import Derived.Test.YtnjphclbpgajpaaGreatDoorCards
import Derived.Test.YtnjphclbpgajpaaGreatDoorTie
import Derived.Test.YtnjphclbpgajpaaGreatDoorX09
import Derived.Test.YtnjphclbpgajpaaGreatDoorYJobMoves
set_option linter.unnecessarySimpa false
set_option linter.unusedSectionVars false
set_option linter.unusedSimpArgs false
set_option linter.unusedVariables false
set_option maxRecDepth 100000
namespace Go.Proofs.YtnjphclbpgajpaaGreatDoor
open Go.ChangeShapes Go.WideShapes Go.ChangeAt Go.RowKit Vc
theorem jobMoves_lifted(os:Os)(started:os.Started)(H:Type)(enc:TypeId×Value->H) :
  ReturnsInHanded {} Tryz.checked os 7 .any (fun w args=>(Rows.jobMovesSpec.pre enc Tryz.prog Tryz.f7 [] false w args/\laidMetH Tryz.prog eF w)/\sizedMet enc Tryz.prog Tryz.f7 (OpenSpec.ofChange Rows.jobMovesSpec) false w args)
   (Rows.jobMovesSpec.post enc Tryz.prog Tryz.f7 false true false false):=by
 refine returnsInHanded_of_change_and (C:=Tryz.checked) (X:=fun w _=>laidMetH Tryz.prog eF w) (fun _ _ _ hh h=>h.of_heap hh) MQ started (by kernel_rfl) Tryz.func7
  (ChangeSpec.witness_shaped (enc:=enc) (C:=Tryz.checked) (os:=os) (X:=fun w _=>laidMetH Tryz.prog eF w) false (World.laidAll Tryz.prog os eF) #[.slice none 0 0,.int .i64 0,.int .i64 0] 8 (World.laidAll_os _ _ _) (World.shaped_of_ZipB (by kernel_rfl) (by kernel_rfl)) (by kernel_rfl) (by kernel_rfl) (by kernel_rfl) (oX os _)) ?_
 intro W base args ds gs before hval0 hW _ _ _ _;have hval:∀(j:Nat) t v,Tryz.f7.params[j]?=some t->args[j]?=some v->Value.okWide Tryz.prog W .any base t v:=hval0;have hW':=hW;obtain⟨p,q,hA0,hV,rfl,hfz,hnd⟩:=hW;have hA:DataW.TrodAll enc Tryz.prog W 0 (fun _=>true) true Tryz.f7.params.toList args.toList ds p:=hA0
 have hps:Tryz.f7.params = #[66,2,2]:=by kernel_rfl
 rw[hps] at hA hval;obtain⟨argl⟩:=args;obtain⟨v0,w0,d0,e0,p0,q0,rfl,rfl,rfl,h0,hA⟩:=mS hA;obtain⟨v1,w1,d1,e1,p1,q1,rfl,rfl,rfl,h1,hA⟩:=mS hA;obtain⟨v2,w2,d2,e2,p2,q2,rfl,rfl,rfl,h2,hA⟩:=mS hA;obtain⟨rfl,rfl,rfl⟩:=FT hA;obtain⟨rfl,rfl⟩:=trodVars_none hV;obtain⟨x0,r0,f0⟩:=iN (n:=12) IE h0 (fun _=>rfl) (hval 0 66 v0 rfl rfl) (iQ IE (hval 0 66 v0 rfl rfl))
 rw[ZD] at f0;obtain⟨x1,r1,f1⟩:=iN (n:=12) NV h1 (fun _=>rfl) (hval 1 2 v1 rfl rfl) (iQ NV (hval 1 2 v1 rfl rfl))
 rw[s2] at f1;obtain⟨x2,r2,f2⟩:=iN (n:=12) NV h2 (fun _=>rfl) (hval 2 2 v2 rfl rfl) (iQ NV (hval 2 2 v2 rfl rfl))
 rw[s2] at f2;obtain⟨b0,c0,a0,n0⟩:=JJ r0;rw[a0] at f0;obtain⟨c1,a1⟩:=d9 u2 r1;rw[a1] at f1;obtain⟨c2,a2⟩:=d9 u2 r2;rw[a2] at f2;simp only[List.append_nil] at hW';have l0:∀x∈p0,x.block<W.heap.size:=fun x hx=>by simpa using hW'.lt x (by simp[hx])
 have l1:∀x∈p1,x.block<W.heap.size:=fun x hx=>by simpa using hW'.lt x (by simp[hx])
 have l2:∀x∈p2,x.block<W.heap.size:=fun x hx=>by simpa using hW'.lt x (by simp[hx])
 have hlaw:=WH b0 c0 c1 c2;refine(jX hlaw ⟨_,Tryz.func7,rfl,by decide⟩ M0 W #[v0,v1,v2] rfl (fun j x v hx hv=>?_)).mono fun e W2 hres=>?_
 ·match j,hx,hv with
  |0,hx,hv=>cases hx;cases hv;exact f0
  |1,hx,hv=>cases hx;cases hv;exact f1
  |2,hx,hv=>cases hx;cases hv;exact f2
  |j+3,hx,hv=>simp at hx
 obtain⟨v,X,rfl,hXw,hv,_,hb⟩:=hres;have hvb:=Flat.boolv hv;subst hvb;exact⟨_,rfl,_,_,_,[],_,[],hW',trodAll_mk1 (FB true),⟨_,_,Below.trod mO (by kernel_rfl) (of_decide_eq_true (by kernel_rfl)) h0 hb l0,⟨_,_,Below.trod mO (by kernel_rfl) (of_decide_eq_true (by kernel_rfl)) h1 hb l1,⟨_,_,Below.trod mO (by kernel_rfl) (of_decide_eq_true (by kernel_rfl)) h2 hb l2,rfl,rfl⟩,rfl⟩,rfl⟩,rfl,hb.frame _,fun h=>by cases h⟩
theorem BM:(Rows.jobMovesRow.inPlace ==Tryz.prog.inPlace 7)=true:=by kernel_rfl
theorem C3:(Rows.jobMovesRow.unfollowed ==Tryz.prog.unfollowed 7)=true:=by kernel_rfl
theorem AP:(Rows.jobMovesRow.recurses ==Tryz.prog.recurses 7)=true:=by kernel_rfl
theorem AO:(Rows.jobMovesRow.named ==Tryz.prog.varsNamed 7)=true:=by kernel_rfl
theorem rT:joinedFacts Tryz.prog 7 Tryz.f7 Rows.jobMovesSpec Rows.jobMovesRow=true:=by
 unfold joinedFacts
 repeat' (with_reducible refine yR ?_ ?_)
 all_goals first|with_reducible exact BM|with_reducible exact C3|with_reducible exact AP|with_reducible exact AO|kernel_rfl
theorem jobMoves_nm:Tryz.prog.funcNamed "hortator/hortatorlaw19.JobMoves" = some 7:=by kernel_rfl
theorem vQ:Tryz.f7.isInstance Tryz.prog Rows.jobMovesRow.origin Rows.jobMovesRow.targs:=of_decide_eq_true (by kernel_rfl)
theorem wA:Tryz.f7.isWrapper Tryz.prog Rows.jobMovesRow.wrapper Rows.jobMovesRow.mainSum:=by unfold Func.isWrapper;first|(rw[if_pos (by decide +kernel)];kernel_rfl)|(rw[if_neg (by decide +kernel)];exact⟨rfl,rfl⟩)
theorem jobMoves_row:Rows.JobMovesSaid :=
 OpenClaim.holds_of_wide (p:=Tryz.pinned) 7 Tryz.f7 rfl rfl rfl rfl rfl rfl rfl ⟨rfl,rfl,rfl,rfl,rfl⟩ rfl rfl rfl rfl rfl jobMoves_nm Tryz.func7 rT vQ wA
  (fun os started H enc _=>jobMoves_lifted os started H enc)
theorem CL:Rows.jobMovesRow.wfByText (OpenSpec.ofChange Rows.jobMovesSpec)=true:=by kernel_rfl
theorem vV:false=Rows.jobMovesRow.goesBy Tryz.prog:=by kernel_rfl
theorem jobMoves_holds:Rows.JobMovesCardSaid :=
 Claim7.holds_tied_plain_at (p:=Tryz.pinned) .later [] [.data,.data,.data,.data,.sentinel,.sentinel,.pinned] true (true,mainSum) true
  jobMoves_row (fun _ h=>by cases h) CL (fun _ h=>by cases h) jobMoves_row_tie rfl ⟨rfl,rfl⟩ sD rfl
  (fun f fn hf hfn => by
   obtain rfl:f=7:=Option.some.inj (jobMoves_nm.symm.trans hf) |>.symm
   obtain rfl:fn=Tryz.f7:=(Option.some.inj (Tryz.func7.symm.trans hfn)).symm
   exact⟨yN,fun j t ht=>by
    have hps:Tryz.f7.params = #[66,2,2]:=by kernel_rfl
    rw[hps] at ht
    match j,ht with
    |0,ht=>cases ht;exact zG
    |1,ht=>cases ht;exact yJ
    |2,ht=>cases ht;exact yJ
    |j+3,ht=>simp at ht⟩)
  vV
end Go.Proofs.YtnjphclbpgajpaaGreatDoor
