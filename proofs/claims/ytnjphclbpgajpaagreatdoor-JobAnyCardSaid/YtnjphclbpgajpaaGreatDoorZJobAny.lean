/- The law JobAny: from its contract to the row and the card. No condition. -/
import Derived.Test.YtnjphclbpgajpaaGreatDoorRows
import Derived.Test.YtnjphclbpgajpaaGreatDoorCards
import Derived.Test.YtnjphclbpgajpaaGreatDoorTie
import Derived.Test.YtnjphclbpgajpaaGreatDoorM09
import Derived.Test.YtnjphclbpgajpaaGreatDoorM17
set_option linter.unnecessarySimpa false
set_option linter.unusedSectionVars false
set_option linter.unusedSimpArgs false
set_option linter.unusedVariables false
set_option maxRecDepth 100000
namespace Go.Proofs.YtnjphclbpgajpaaGreatDoor
open Go.ChangeShapes Go.WideShapes Go.ChangeAt Go.RowKit Vc
theorem jobAny_lifted(os:Os)(started:os.Started)(H:Type)(enc:TypeId×Value->H) :
  ReturnsInHanded {} Tryz.checked os 4 .any (fun w args=>(Rows.jobAnySpec.pre enc Tryz.prog Tryz.f4 [] false w args/\laidMetH Tryz.prog a9N w)/\sizedMet enc Tryz.prog Tryz.f4 (OpenSpec.ofChange Rows.jobAnySpec) false w args)
   (Rows.jobAnySpec.post enc Tryz.prog Tryz.f4 false true false false):=by
 refine returnsInHanded_of_change_and (C:=Tryz.checked) (X:=fun w _=>laidMetH Tryz.prog a9N w) (fun _ _ _ hh h=>h.of_heap hh) c8o started (by kernel_rfl) Tryz.func4
  (ChangeSpec.witness_shaped (enc:=enc) (C:=Tryz.checked) (os:=os) (X:=fun w _=>laidMetH Tryz.prog a9N w) false (World.laidAll Tryz.prog os a9N) #[.agg #[.int .i64 0,.int .i64 0,.int .i64 0,.int .i64 0,.slice none 0 0],.slice none 0 0,.agg #[.int .i64 0,.int .i64 0,.int .i64 0,.slice none 0 0],.int .i64 0,.agg #[.int .i64 0,.int .i64 0,.int .i64 0,.int .i64 0,.int .i64 0,.int .i64 0,.int .i64 0,.int .i64 0,.int .i64 0],.int .i64 0] 8 (World.laidAll_os _ _ _) (World.shaped_of_ZipB (by kernel_rfl) (by kernel_rfl)) (by kernel_rfl) (by kernel_rfl) (by kernel_rfl) (b6H os _)) ?_
 intro W base args ds gs before hval0 hW _ _ _ _;have hval:∀(j:Nat) t v,Tryz.f4.params[j]?=some t->args[j]?=some v->Value.okWide Tryz.prog W .any base t v:=hval0;have hW':=hW;obtain⟨p,q,hA0,hV,rfl,hfz,hnd⟩:=hW;have hA:DataW.TrodAll enc Tryz.prog W 0 (fun _=>true) true Tryz.f4.params.toList args.toList ds p:=hA0
 have hps:Tryz.f4.params = #[24,25,28,3,39,2]:=by kernel_rfl
 rw[hps] at hA hval;obtain⟨argl⟩:=args;obtain⟨v0,w0,d0,e0,p0,q0,rfl,rfl,rfl,h0,hA⟩:=b2m hA;obtain⟨v1,w1,d1,e1,p1,q1,rfl,rfl,rfl,h1,hA⟩:=b2m hA;obtain⟨v2,w2,d2,e2,p2,q2,rfl,rfl,rfl,h2,hA⟩:=b2m hA;obtain⟨v3,w3,d3,e3,p3,q3,rfl,rfl,rfl,h3,hA⟩:=b2m hA;obtain⟨v4,w4,d4,e4,p4,q4,rfl,rfl,rfl,h4,hA⟩:=b2m hA;obtain⟨v5,w5,d5,e5,p5,q5,rfl,rfl,rfl,h5,hA⟩:=b2m hA;obtain⟨rfl,rfl,rfl⟩:=c5C hA;obtain⟨rfl,rfl⟩:=trodVars_none hV;obtain⟨x0,r0,f0⟩:=a7e (n:=12) c6n h0 (fun _=>rfl) (hval 0 24 v0 rfl rfl) (a7h c6n (hval 0 24 v0 rfl rfl))
 rw[s24] at f0;obtain⟨x1,r1,f1⟩:=a7e (n:=12) c7K h1 (fun _=>rfl) (hval 1 25 v1 rfl rfl) (a7h c7K (hval 1 25 v1 rfl rfl))
 rw[s25] at f1;obtain⟨x2,r2,f2⟩:=a7e (n:=12) c7Z h2 (fun _=>rfl) (hval 2 28 v2 rfl rfl) (a7h c7Z (hval 2 28 v2 rfl rfl))
 rw[s28] at f2;obtain⟨x3,r3,f3⟩:=a7e (n:=12) ok3 h3 (fun _=>rfl) (hval 3 3 v3 rfl rfl) (a7h ok3 (hval 3 3 v3 rfl rfl))
 rw[s3] at f3;obtain⟨x4,r4,f4⟩:=a7e (n:=12) c6Q h4 (fun _=>rfl) (hval 4 39 v4 rfl rfl) (a7h c6Q (hval 4 39 v4 rfl rfl))
 rw[s70] at f4;obtain⟨x5,r5,f5⟩:=a7e (n:=12) ok2 h5 (fun _=>rfl) (hval 5 2 v5 rfl rfl) (a7h ok2 (hval 5 2 v5 rfl rfl))
 rw[s2] at f5;obtain⟨c0,a0,n0⟩:=c9O r0;rw[a0] at f0;obtain⟨b1,c1,a1,n1,m1⟩:=c8c r1;rw[a1] at f1;obtain⟨c2,a2,n2⟩:=c9C r2;rw[a2] at f2;obtain⟨c3,a3⟩:=a0i u3 r3;rw[a3] at f3;obtain⟨c4,a4⟩:=c8u r4;rw[a4] at f4;obtain⟨c5,a5⟩:=a0i u2 r5;rw[a5] at f5;simp only[List.append_nil] at hW';have l0:∀x∈p0,x.block<W.heap.size:=fun x hx=>by simpa using hW'.lt x (by simp[hx])
 have l1:∀x∈p1,x.block<W.heap.size:=fun x hx=>by simpa using hW'.lt x (by simp[hx])
 have l2:∀x∈p2,x.block<W.heap.size:=fun x hx=>by simpa using hW'.lt x (by simp[hx])
 have l3:∀x∈p3,x.block<W.heap.size:=fun x hx=>by simpa using hW'.lt x (by simp[hx])
 have l4:∀x∈p4,x.block<W.heap.size:=fun x hx=>by simpa using hW'.lt x (by simp[hx])
 have l5:∀x∈p5,x.block<W.heap.size:=fun x hx=>by simpa using hW'.lt x (by simp[hx])
 have hlaw:=c4K c0 b1 c1 c2 c3 c4 c5;refine(b3B hlaw ⟨_,Tryz.func4,rfl,by decide⟩ M0 W #[v0,v1,v2,v3,v4,v5] rfl (fun j x v hx hv=>?_)).mono fun e W2 hres=>?_
 ·match j,hx,hv with
  |0,hx,hv=>cases hx;cases hv;exact f0
  |1,hx,hv=>cases hx;cases hv;exact f1
  |2,hx,hv=>cases hx;cases hv;exact f2
  |3,hx,hv=>cases hx;cases hv;exact f3
  |4,hx,hv=>cases hx;cases hv;exact f4
  |5,hx,hv=>cases hx;cases hv;exact f5
  |j+6,hx,hv=>simp at hx
 obtain⟨v,X,rfl,hXw,hv,_,hb⟩:=hres;have hvb:=Flat.boolv hv;subst hvb;exact⟨_,rfl,_,_,_,[],_,[],hW',trodAll_mk1 (c4M true),⟨_,_,Below.trod b3Q (by kernel_rfl) (of_decide_eq_true (by kernel_rfl)) h0 hb l0,⟨_,_,Below.trod b3Q (by kernel_rfl) (of_decide_eq_true (by kernel_rfl)) h1 hb l1,⟨_,_,Below.trod b3Q (by kernel_rfl) (of_decide_eq_true (by kernel_rfl)) h2 hb l2,⟨_,_,Below.trod b3Q (by kernel_rfl) (of_decide_eq_true (by kernel_rfl)) h3 hb l3,⟨_,_,Below.trod b3Q (by kernel_rfl) (of_decide_eq_true (by kernel_rfl)) h4 hb l4,⟨_,_,Below.trod b3Q (by kernel_rfl) (of_decide_eq_true (by kernel_rfl)) h5 hb l5,rfl,rfl⟩,rfl⟩,rfl⟩,rfl⟩,rfl⟩,rfl⟩,rfl,hb.frame _,fun h=>by cases h⟩
theorem b5P:(Rows.jobAnyRow.inPlace ==Tryz.prog.inPlace 4)=true:=by kernel_rfl
theorem b3o:(Rows.jobAnyRow.unfollowed ==Tryz.prog.unfollowed 4)=true:=by kernel_rfl
theorem b5Y:(Rows.jobAnyRow.recurses ==Tryz.prog.recurses 4)=true:=by kernel_rfl
theorem b4E:(Rows.jobAnyRow.named ==Tryz.prog.varsNamed 4)=true:=by kernel_rfl
theorem a7u:joinedFacts Tryz.prog 4 Tryz.f4 Rows.jobAnySpec Rows.jobAnyRow=true:=by
 unfold joinedFacts
 repeat' (with_reducible refine c0Q ?_ ?_)
 all_goals first|with_reducible exact b5P|with_reducible exact b3o|with_reducible exact b5Y|with_reducible exact b4E|kernel_rfl
theorem jobAny_nm:Tryz.prog.funcNamed "hortator/hortatorlaw19.JobAny" = some 4:=by kernel_rfl
theorem b0c:Tryz.f4.isInstance Tryz.prog Rows.jobAnyRow.origin Rows.jobAnyRow.targs:=of_decide_eq_true (by kernel_rfl)
theorem b0s:Tryz.f4.isWrapper Tryz.prog Rows.jobAnyRow.wrapper Rows.jobAnyRow.mainSum:=by unfold Func.isWrapper;first|(rw[if_pos (by decide +kernel)];kernel_rfl)|(rw[if_neg (by decide +kernel)];exact⟨rfl,rfl⟩)
theorem jobAny_row:Rows.JobAnySaid :=
 OpenClaim.holds_of_wide (p:=Tryz.pinned) 4 Tryz.f4 rfl rfl rfl rfl rfl rfl rfl ⟨rfl,rfl,rfl,rfl,rfl⟩ rfl rfl rfl rfl rfl jobAny_nm Tryz.func4 a7u b0c b0s
  (fun os started H enc _=>jobAny_lifted os started H enc)
theorem b4L:Rows.jobAnyRow.wfByText (OpenSpec.ofChange Rows.jobAnySpec)=true:=by kernel_rfl
theorem b1O:false=Rows.jobAnyRow.goesBy Tryz.prog:=by kernel_rfl
theorem jobAny_holds:Rows.JobAnyCardSaid :=
 Claim7.holds_tied_plain_at (p:=Tryz.pinned) .later [] [.data,.data,.data,.data,.sentinel,.sentinel,.pinned] true (true,mainSum) true
  jobAny_row (fun _ h=>by cases h) b4L (fun _ h=>by cases h) jobAny_row_tie rfl ⟨rfl,rfl⟩ b8y rfl
  (fun f fn hf hfn => by
   obtain rfl:f=4:=Option.some.inj (jobAny_nm.symm.trans hf) |>.symm
   obtain rfl:fn=Tryz.f4:=(Option.some.inj (Tryz.func4.symm.trans hfn)).symm
   exact⟨b9z,fun j t ht=>by
    have hps:Tryz.f4.params = #[24,25,28,3,39,2]:=by kernel_rfl
    rw[hps] at ht
    match j,ht with
    |0,ht=>cases ht;exact b9c
    |1,ht=>cases ht;exact b9s
    |2,ht=>cases ht;exact b8f
    |3,ht=>cases ht;exact c1n
    |4,ht=>cases ht;exact b9j
    |5,ht=>cases ht;exact c0k
    |j+6,ht=>simp at ht⟩)
  b1O
end Go.Proofs.YtnjphclbpgajpaaGreatDoor
