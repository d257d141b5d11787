/- The law JobWhole: from its contract to the row and the card. No condition. -/
import Derived.Test.YtnjphclbpgajpaaGreatDoorRows
import Derived.Test.YtnjphclbpgajpaaGreatDoorCards
import Derived.Test.YtnjphclbpgajpaaGreatDoorTie
import Derived.Test.YtnjphclbpgajpaaGreatDoorX09
import Derived.Test.YtnjphclbpgajpaaGreatDoorYJobWhole
set_option linter.unnecessarySimpa false
set_option linter.unusedSectionVars false
set_option linter.unusedSimpArgs false
set_option linter.unusedVariables false
set_option maxRecDepth 100000
namespace Go.Proofs.YtnjphclbpgajpaaGreatDoor
open Go.ChangeShapes Go.WideShapes Go.ChangeAt Go.RowKit Vc
theorem jobWhole_lifted(os:Os)(started:os.Started)(H:Type)(enc:TypeId×Value->H) :
  ReturnsInHanded {} Tryz.checked os 6 .any (fun w args=>(Rows.jobWholeSpec.pre enc Tryz.prog Tryz.f6 [] false w args/\laidMetH Tryz.prog eF w)/\sizedMet enc Tryz.prog Tryz.f6 (OpenSpec.ofChange Rows.jobWholeSpec) false w args)
   (Rows.jobWholeSpec.post enc Tryz.prog Tryz.f6 false true false false):=by
 refine returnsInHanded_of_change_and (C:=Tryz.checked) (X:=fun w _=>laidMetH Tryz.prog eF w) (fun _ _ _ hh h=>h.of_heap hh) MQ started (by kernel_rfl) Tryz.func6
  (ChangeSpec.witness_shaped (enc:=enc) (C:=Tryz.checked) (os:=os) (X:=fun w _=>laidMetH Tryz.prog eF w) false (World.laidAll Tryz.prog os eF) #[.agg #[.int .i64 0,.int .i64 0,.int .i64 0,.int .i64 0,.slice none 0 0],.agg #[.int .i64 0,.int .i64 0,.int .i64 0,.slice none 0 0],.int .i64 0] 8 (World.laidAll_os _ _ _) (World.shaped_of_ZipB (by kernel_rfl) (by kernel_rfl)) (by kernel_rfl) (by kernel_rfl) (by kernel_rfl) (oX os _)) ?_
 intro W base args ds gs before hval0 hW _ _ _ _;have hval:∀(j:Nat) t v,Tryz.f6.params[j]?=some t->args[j]?=some v->Value.okWide Tryz.prog W .any base t v:=hval0;have hW':=hW;obtain⟨p,q,hA0,hV,rfl,hfz,hnd⟩:=hW;have hA:DataW.TrodAll enc Tryz.prog W 0 (fun _=>true) true Tryz.f6.params.toList args.toList ds p:=hA0
 have hps:Tryz.f6.params = #[24,28,2]:=by kernel_rfl
 rw[hps] at hA hval;obtain⟨argl⟩:=args;obtain⟨v0,w0,d0,e0,p0,q0,rfl,rfl,rfl,h0,hA⟩:=mS hA;obtain⟨v1,w1,d1,e1,p1,q1,rfl,rfl,rfl,h1,hA⟩:=mS hA;obtain⟨v2,w2,d2,e2,p2,q2,rfl,rfl,rfl,h2,hA⟩:=mS hA;obtain⟨rfl,rfl,rfl⟩:=FT hA;obtain⟨rfl,rfl⟩:=trodVars_none hV;obtain⟨x0,r0,f0⟩:=iN (n:=12) TK h0 (fun _=>rfl) (hval 0 24 v0 rfl rfl) (iQ TK (hval 0 24 v0 rfl rfl))
 rw[s24] at f0;obtain⟨x1,r1,f1⟩:=iN (n:=12) W6 h1 (fun _=>rfl) (hval 1 28 v1 rfl rfl) (iQ W6 (hval 1 28 v1 rfl rfl))
 rw[s28] at f1;obtain⟨x2,r2,f2⟩:=iN (n:=12) NV h2 (fun _=>rfl) (hval 2 2 v2 rfl rfl) (iQ NV (hval 2 2 v2 rfl rfl))
 rw[s2] at f2;obtain⟨c0,a0,n0⟩:=ZX r0;rw[a0] at f0;obtain⟨c1,a1,n1⟩:=YV r1;rw[a1] at f1;obtain⟨c2,a2⟩:=d9 u2 r2;rw[a2] at f2;simp only[List.append_nil] at hW';have l0:∀x∈p0,x.block<W.heap.size:=fun x hx=>by simpa using hW'.lt x (by simp[hx])
 have l1:∀x∈p1,x.block<W.heap.size:=fun x hx=>by simpa using hW'.lt x (by simp[hx])
 have l2:∀x∈p2,x.block<W.heap.size:=fun x hx=>by simpa using hW'.lt x (by simp[hx])
 have hlaw:=UH c0 c1 c2;refine(jX hlaw ⟨_,Tryz.func6,rfl,by decide⟩ M0 W #[v0,v1,v2] rfl (fun j x v hx hv=>?_)).mono fun e W2 hres=>?_
 ·match j,hx,hv with
  |0,hx,hv=>cases hx;cases hv;exact f0
  |1,hx,hv=>cases hx;cases hv;exact f1
  |2,hx,hv=>cases hx;cases hv;exact f2
  |j+3,hx,hv=>simp at hx
 obtain⟨v,X,rfl,hXw,hv,_,hb⟩:=hres;have hvb:=Flat.boolv hv;subst hvb;exact⟨_,rfl,_,_,_,[],_,[],hW',trodAll_mk1 (FB true),⟨_,_,Below.trod mO (by kernel_rfl) (of_decide_eq_true (by kernel_rfl)) h0 hb l0,⟨_,_,Below.trod mO (by kernel_rfl) (of_decide_eq_true (by kernel_rfl)) h1 hb l1,⟨_,_,Below.trod mO (by kernel_rfl) (of_decide_eq_true (by kernel_rfl)) h2 hb l2,rfl,rfl⟩,rfl⟩,rfl⟩,rfl,hb.frame _,fun h=>by cases h⟩
theorem BU:(Rows.jobWholeRow.inPlace ==Tryz.prog.inPlace 6)=true:=by kernel_rfl
theorem BZ:(Rows.jobWholeRow.unfollowed ==Tryz.prog.unfollowed 6)=true:=by kernel_rfl
theorem AK:(Rows.jobWholeRow.recurses ==Tryz.prog.recurses 6)=true:=by kernel_rfl
theorem B0:(Rows.jobWholeRow.named ==Tryz.prog.varsNamed 6)=true:=by kernel_rfl
theorem rY:joinedFacts Tryz.prog 6 Tryz.f6 Rows.jobWholeSpec Rows.jobWholeRow=true:=by
 unfold joinedFacts
 repeat' (with_reducible refine yR ?_ ?_)
 all_goals first|with_reducible exact BU|with_reducible exact BZ|with_reducible exact AK|with_reducible exact B0|kernel_rfl
theorem jobWhole_nm:Tryz.prog.funcNamed "hortator/hortatorlaw19.JobWhole" = some 6:=by kernel_rfl
theorem vL:Tryz.f6.isInstance Tryz.prog Rows.jobWholeRow.origin Rows.jobWholeRow.targs:=of_decide_eq_true (by kernel_rfl)
theorem wE:Tryz.f6.isWrapper Tryz.prog Rows.jobWholeRow.wrapper Rows.jobWholeRow.mainSum:=by unfold Func.isWrapper;first|(rw[if_pos (by decide +kernel)];kernel_rfl)|(rw[if_neg (by decide +kernel)];exact⟨rfl,rfl⟩)
theorem jobWhole_row:Rows.JobWholeSaid :=
 OpenClaim.holds_of_wide (p:=Tryz.pinned) 6 Tryz.f6 rfl rfl rfl rfl rfl rfl rfl ⟨rfl,rfl,rfl,rfl,rfl⟩ rfl rfl rfl rfl rfl jobWhole_nm Tryz.func6 rY vL wE
  (fun os started H enc _=>jobWhole_lifted os started H enc)
theorem BI:Rows.jobWholeRow.wfByText (OpenSpec.ofChange Rows.jobWholeSpec)=true:=by kernel_rfl
theorem vZ:false=Rows.jobWholeRow.goesBy Tryz.prog:=by kernel_rfl
theorem jobWhole_holds:Rows.JobWholeCardSaid :=
 Claim7.holds_tied_plain_at (p:=Tryz.pinned) .later [] [.data,.data,.data,.data,.sentinel,.sentinel,.pinned] true (true,mainSum) true
  jobWhole_row (fun _ h=>by cases h) BI (fun _ h=>by cases h) jobWhole_row_tie rfl ⟨rfl,rfl⟩ sD rfl
  (fun f fn hf hfn => by
   obtain rfl:f=6:=Option.some.inj (jobWhole_nm.symm.trans hf) |>.symm
   obtain rfl:fn=Tryz.f6:=(Option.some.inj (Tryz.func6.symm.trans hfn)).symm
   exact⟨yN,fun j t ht=>by
    have hps:Tryz.f6.params = #[24,28,2]:=by kernel_rfl
    rw[hps] at ht
    match j,ht with
    |0,ht=>cases ht;exact KX
    |1,ht=>cases ht;exact MZ
    |2,ht=>cases ht;exact yJ
    |j+3,ht=>simp at ht⟩)
  vZ
end Go.Proofs.YtnjphclbpgajpaaGreatDoor
