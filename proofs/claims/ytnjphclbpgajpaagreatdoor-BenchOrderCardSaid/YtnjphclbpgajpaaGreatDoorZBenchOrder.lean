/- The law BenchOrder: from its contract to the row and the card. No condition. -/
import Derived.Test.YtnjphclbpgajpaaGreatDoorRows
import Derived.Test.YtnjphclbpgajpaaGreatDoorCards
import Derived.Test.YtnjphclbpgajpaaGreatDoorTie
import Derived.Test.YtnjphclbpgajpaaGreatDoorW09
import Derived.Test.YtnjphclbpgajpaaGreatDoorW17
set_option linter.unnecessarySimpa false
set_option linter.unusedSectionVars false
set_option linter.unusedSimpArgs false
set_option linter.unusedVariables false
set_option maxRecDepth 100000
namespace Go.Proofs.YtnjphclbpgajpaaGreatDoor
open Go.ChangeShapes Go.WideShapes Go.ChangeAt Go.RowKit Vc
theorem benchOrder_lifted(os:Os)(started:os.Started)(H:Type)(enc:TypeId×Value->H) :
  ReturnsInHanded {} Tryz.checked os 8 .any (fun w args=>(Rows.benchOrderSpec.pre enc Tryz.prog Tryz.f8 [] false w args/\laidMetH Tryz.prog oB w)/\sizedMet enc Tryz.prog Tryz.f8 (OpenSpec.ofChange Rows.benchOrderSpec) false w args)
   (Rows.benchOrderSpec.post enc Tryz.prog Tryz.f8 false true false false):=by
 refine returnsInHanded_of_change_and (C:=Tryz.checked) (X:=fun w _=>laidMetH Tryz.prog oB w) (fun _ _ _ hh h=>h.of_heap hh) VO started (by kernel_rfl) Tryz.func8
  (ChangeSpec.witness_shaped (enc:=enc) (C:=Tryz.checked) (os:=os) (X:=fun w _=>laidMetH Tryz.prog oB w) false (World.laidAll Tryz.prog os oB) #[.slice none 0 0] 8 (World.laidAll_os _ _ _) (World.shaped_of_ZipB (by kernel_rfl) (by kernel_rfl)) (by kernel_rfl) (by kernel_rfl) (by kernel_rfl) (GQ os _)) ?_
 intro W base args ds gs before hval0 hW _ _ _ _;have hval:∀(j:Nat) t v,Tryz.f8.params[j]?=some t->args[j]?=some v->Value.okWide Tryz.prog W .any base t v:=hval0;have hW':=hW;obtain⟨p,q,hA0,hV,rfl,hfz,hnd⟩:=hW;have hA:DataW.TrodAll enc Tryz.prog W 0 (fun _=>true) true Tryz.f8.params.toList args.toList ds p:=hA0
 have hps:Tryz.f8.params = #[66]:=by kernel_rfl
 rw[hps] at hA hval;obtain⟨argl⟩:=args;obtain⟨v0,w0,d0,e0,p0,q0,rfl,rfl,rfl,h0,hA⟩:=RZ hA;obtain⟨rfl,rfl,rfl⟩:=S8 hA;obtain⟨rfl,rfl⟩:=trodVars_none hV;obtain⟨x0,r0,f0⟩:=KN (n:=12) TX h0 (fun _=>rfl) (hval 0 66 v0 rfl rfl) (KI TX (hval 0 66 v0 rfl rfl))
 rw[s71] at f0;obtain⟨b0,c0,a0,n0⟩:=QT r0;rw[a0] at f0;simp only[List.append_nil] at hW';have l0:∀x∈p0,x.block<W.heap.size:=fun x hx=>by simpa using hW'.lt x (by simp[hx])
 have hlaw:=SO b0 c0;refine(xX hlaw ⟨_,Tryz.func8,rfl,by decide⟩ M0 W #[v0] rfl (fun j x v hx hv=>?_)).mono fun e W2 hres=>?_
 ·match j,hx,hv with
  |0,hx,hv=>cases hx;cases hv;exact f0
  |j+1,hx,hv=>simp at hx
 obtain⟨v,X,rfl,hXw,hv,_,hb⟩:=hres;have hvb:=Flat.boolv hv;subst hvb;exact⟨_,rfl,_,_,_,[],_,[],hW',trodAll_mk1 (SR true),⟨_,_,Below.trod SC (by kernel_rfl) (of_decide_eq_true (by kernel_rfl)) h0 hb l0,rfl,rfl⟩,rfl,hb.frame _,fun h=>by cases h⟩
theorem rO:(Rows.benchOrderRow.inPlace ==Tryz.prog.inPlace 8)=true:=by kernel_rfl
theorem sA:(Rows.benchOrderRow.unfollowed ==Tryz.prog.unfollowed 8)=true:=by kernel_rfl
theorem rM:(Rows.benchOrderRow.recurses ==Tryz.prog.recurses 8)=true:=by kernel_rfl
theorem s6:(Rows.benchOrderRow.named ==Tryz.prog.varsNamed 8)=true:=by kernel_rfl
theorem m9:joinedFacts Tryz.prog 8 Tryz.f8 Rows.benchOrderSpec Rows.benchOrderRow=true:=by
 unfold joinedFacts
 repeat' (with_reducible refine LU ?_ ?_)
 all_goals first|with_reducible exact rO|with_reducible exact sA|with_reducible exact rM|with_reducible exact s6|kernel_rfl
theorem benchOrder_nm:Tryz.prog.funcNamed "hortator/hortatorlaw19.BenchOrder" = some 8:=by kernel_rfl
theorem oI:Tryz.f8.isInstance Tryz.prog Rows.benchOrderRow.origin Rows.benchOrderRow.targs:=of_decide_eq_true (by kernel_rfl)
theorem oG:Tryz.f8.isWrapper Tryz.prog Rows.benchOrderRow.wrapper Rows.benchOrderRow.mainSum:=by unfold Func.isWrapper;first|(rw[if_pos (by decide +kernel)];kernel_rfl)|(rw[if_neg (by decide +kernel)];exact⟨rfl,rfl⟩)
theorem benchOrder_row:Rows.BenchOrderSaid :=
 OpenClaim.holds_of_wide (p:=Tryz.pinned) 8 Tryz.f8 rfl rfl rfl rfl rfl rfl rfl ⟨rfl,rfl,rfl,rfl,rfl⟩ rfl rfl rfl rfl rfl benchOrder_nm Tryz.func8 m9 oI oG
  (fun os started H enc _=>benchOrder_lifted os started H enc)
theorem rY:Rows.benchOrderRow.wfByText (OpenSpec.ofChange Rows.benchOrderSpec)=true:=by kernel_rfl
theorem oJ:false=Rows.benchOrderRow.goesBy Tryz.prog:=by kernel_rfl
theorem benchOrder_holds:Rows.BenchOrderCardSaid :=
 Claim7.holds_tied_plain_at (p:=Tryz.pinned) .later [] [.data,.data,.data,.data,.sentinel,.sentinel,.pinned] true (true,mainSum) true
  benchOrder_row (fun _ h=>by cases h) rY (fun _ h=>by cases h) benchOrder_row_tie rfl ⟨rfl,rfl⟩ HQ rfl
  (fun f fn hf hfn => by
   obtain rfl:f=8:=Option.some.inj (benchOrder_nm.symm.trans hf) |>.symm
   obtain rfl:fn=Tryz.f8:=(Option.some.inj (Tryz.func8.symm.trans hfn)).symm
   exact⟨N4,fun j t ht=>by
    have hps:Tryz.f8.params = #[66]:=by kernel_rfl
    rw[hps] at ht
    match j,ht with
    |0,ht=>cases ht;exact HH
    |j+1,ht=>simp at ht⟩)
  oJ
end Go.Proofs.YtnjphclbpgajpaaGreatDoor
