/- Part of a proof over a Go program: Cb, Fn1, MaSort, MaWin, MaPlan, MaPick, Cc, Cd, Rd, Ent, Fj. No condition. -/
import Derived.Test.YtnjphclbpgajpaaGreatDoorX08
import Derived.Test.YtnjphclbpgajpaaGreatDoorProg
import Derived.Test.YtnjphclbpgajpaaGreatDoorX01
import Derived.Test.YtnjphclbpgajpaaGreatDoorChecked
import Derived.ProofKit
import Derived.LaidMore
import Derived.OpenShut
import Derived.Stop.Joined
import Derived.Lay
import Derived.SevenTiedAt
import Derived.Test.YtnjphclbpgajpaaGreatDoorRows
set_option linter.unnecessarySimpa false
set_option linter.unusedSectionVars false
set_option linter.unusedSimpArgs false
set_option linter.unusedVariables false
set_option maxHeartbeats 4000000
set_option maxRecDepth 100000
namespace Go.Proofs.YtnjphclbpgajpaaGreatDoor.Vc
open Go.RowKit Ma
theorem JF{n:Nat}(h:n<=24):n<=maxLen:=Nat.le_trans h (by decide)
theorem LM(nl:Bool)(l:List Ld):aB Tryz.prog 42 [sL nl l] (.p (.bool (dY l))):=by
 have hld:=M3;refine Fn.run k42 rfl ?_;generalize Tryz.prog=P at *
 (repeat'((conv=>whnf);first|exact trivial|(with_reducible first|refine zX ?_|refine zP ?_|refine zL ?_)|refine⟨rfl,?_⟩|refine⟨_,rfl,?_⟩|refine⟨fun _=>?_,fun _=>?_⟩|refine zn ?_|refine zb rfl ?_|refine zX ?_|refine zo rfl ?_|refine zs ?_|intro _));all_goals(try(conv=>whnf))
 refine aX (fun n s=>∃i:Nat,n+i=l.length/\(l.drop i).all Ld.ok=l.all Ld.ok/\s=⟨gM 19 [(0,.p (sL nl l)),(3,.p (.int .i64 i))],[]⟩) l.length ?_ ?_
 ·conv=>whnf
  exact⟨0,rfl,rfl,rfl⟩
 ·rintro n st b N ⟨i,hi,hI,e⟩ hN
  cases e
  by_cases hlt:i<l.length
  ·have hrow:(l.map eL)[i]?=some (eL l[i]):=by simp[hlt]
   have hb:=l8 (n:=(l.map eL).length) (by simpa using hlt)
   have hc:=hld l[i];rw[List.drop_eq_getElem_cons hlt] at hI;simp only[List.all_cons] at hI
   (repeat'((conv=>whnf);first|exact trivial|(with_reducible first|refine zX ?_|refine zP ?_|refine zL ?_)|refine⟨rfl,?_⟩|refine⟨_,rfl,?_⟩|refine⟨fun _=>?_,fun _=>?_⟩|refine zn ?_|refine zb rfl ?_|refine zX ?_|refine zo rfl ?_|refine zs ?_|intro _));all_goals(try(conv=>whnf))
   ·rename_i e
    refine aO ?_;unfold dY;simp only[Bool.not_eq_true'] at e;rw[<-hI,e];simp
   ·rename_i hlen e
    simp only[Bool.not_eq_false'] at e;rw[fY (by simpa using hlt) hlen]
    rw[e,Bool.true_and] at hI;exact hN (n-1) _ (by omega) ⟨i+1,by omega,hI,rfl⟩
  ·have hb:=nA (n:=(l.map eL).length) (by simpa using hlt)
   (repeat'((conv=>whnf);first|exact trivial|(with_reducible first|refine zX ?_|refine zP ?_|refine zL ?_)|refine⟨rfl,?_⟩|refine⟨_,rfl,?_⟩|refine⟨fun _=>?_,fun _=>?_⟩|refine zn ?_|refine zb rfl ?_|refine zX ?_|refine zo rfl ?_|refine zs ?_|intro _));all_goals(try(conv=>whnf))
   refine aO ?_;unfold dY;rw[List.drop_of_length_le (by omega)] at hI
   simp only[List.all_nil] at hI;rw[<-hI,Bool.and_true,Bool.eq_iff_iff,decide_eq_true_eq,decide_eq_true_eq,List.length_map];omega
theorem BD{l:List Ld}(h:(bK l).2=false):(bK l).1=0:=by
 unfold bK at *
 split at h<;>rename_i h1
 ·rw[if_pos h1]
 ·rw[if_neg h1]
  split at h<;>rename_i h2
  ·cases h
  ·rw[if_neg h2]
   split at h<;>rename_i h3
   ·cases h
   ·rw[dif_neg h3]
theorem R5(nl:Bool)(l:List Ld):aB Tryz.prog 167 [sL nl l] (.tup [.p (.int .i64 (bK l).1),.p (.bool (bK l).2)]):=by
 have hm:=LM nl l
 cases hl:dY l with
 |false=>
  rw[hl] at hm;rw[q8 hl];refine Fn.run QH rfl ?_;generalize Tryz.prog=P at *
  (repeat'((conv=>whnf);first|exact trivial|(with_reducible first|refine zX ?_|refine zP ?_|refine zL ?_)|refine⟨rfl,?_⟩|refine⟨_,rfl,?_⟩|refine⟨fun _=>?_,fun _=>?_⟩|refine zn ?_|refine zb rfl ?_|refine zX ?_|refine zo rfl ?_|refine zs ?_|intro _));all_goals(try(conv=>whnf))
  rfl
 |true=>
  rw[hl] at hm
  by_cases hn:l=[]
  ·subst hn
   rw[mG];have hz:((([]:List Ld).map eL).length:Int) ==0:=rfl;refine Fn.run QH rfl ?_;generalize Tryz.prog=P at *
   (repeat'((conv=>whnf);first|exact trivial|(with_reducible first|refine zX ?_|refine zP ?_|refine zL ?_)|refine⟨rfl,?_⟩|refine⟨_,rfl,?_⟩|refine⟨fun _=>?_,fun _=>?_⟩|refine zn ?_|refine zb rfl ?_|refine zX ?_|refine zo rfl ?_|refine zs ?_|intro _));all_goals(try(conv=>whnf))
   rfl
  ·have hl':=cW.1 hl
   have hz:(((l.map eL).length:Int) ==0)=false:=by
    cases l with
    |nil=>exact absurd rfl hn
    |cons x xs=>simp;omega
   refine Fn.run QH rfl ?_;generalize Tryz.prog=P at *
   (repeat'((conv=>whnf);first|exact trivial|(with_reducible first|refine zX ?_|refine zP ?_|refine zL ?_)|refine⟨rfl,?_⟩|refine⟨_,rfl,?_⟩|refine⟨fun _=>?_,fun _=>?_⟩|refine zn ?_|refine zb rfl ?_|refine zX ?_|refine zo rfl ?_|refine zs ?_|intro _));all_goals(try(conv=>whnf))
   refine aX (fun n s=>∃t:Int,n=(20001-t).toNat/\Seek l t/\s=⟨gM 47 [(0,.p (sL nl l)),(4,.p (.int .i64 t))],[]⟩) 20000 ?_ ?_
   ·conv=>whnf
    exact⟨1,rfl,Seek.start hl hn,rfl⟩
   ·rintro n st b N ⟨t,hnn,hs,e⟩ hN
    cases e
    by_cases ht:t<=20000
    ·have hb:decide (t<=20000)=true:=decide_eq_true ht
     have ht1:=hs.lo
     (repeat'((conv=>whnf);first|exact trivial|(with_reducible first|refine zX ?_|refine zP ?_|refine zL ?_)|refine⟨rfl,?_⟩|refine⟨_,rfl,?_⟩|refine⟨fun _=>?_,fun _=>?_⟩|refine zn ?_|refine zb rfl ?_|refine zX ?_|refine zo rfl ?_|refine zs ?_|intro _));all_goals(try(conv=>whnf))
     refine aX (fun n s=>∃(i:Nat) (acc:Int),n+i=l.length/\acc+cS (kG t) (l.drop i)=cT l t/\0<=acc/\acc<=i*400000000 /\
      s=⟨gM 47 [(0,.p (sL nl l)),(4,.p (.int .i64 t)),(5,.p (.int .i64 acc)),(6,.p (.int .i64 i))],[]⟩) l.length ?_ ?_
     ·conv=>whnf
      exact⟨0,0,rfl,by simp[cT],Int.le_refl _,by omega,rfl⟩
     ·rintro m st2 b2 N2 ⟨i,acc,hi,hI,ha1,ha2,e2⟩ hN2
      cases e2
      by_cases hlt:i<l.length
      ·have hrow:(l.map eL)[i]?=some (eL l[i]):=by simp[hlt]
       have hb2:=l8 (n:=(l.map eL).length) (by simpa using hlt)
       have hok:=hl'.2 l[i] (List.getElem_mem _);have hokp:=Ld.ok_iff.1 hok;have htn:l[i].t≠0:=by omega
       have hbd:=kF hok ht1 ht;rw[List.drop_eq_getElem_cons hlt] at hI;simp only[cS] at hI
       (repeat'((conv=>whnf);first|exact trivial|(with_reducible first|refine zX ?_|refine zP ?_|refine zL ?_)|refine⟨rfl,?_⟩|refine⟨_,rfl,?_⟩|refine⟨fun _=>?_,fun _=>?_⟩|refine zn ?_|refine zb rfl ?_|refine zX ?_|refine zo rfl ?_|refine zs ?_|intro _));all_goals(try(conv=>whnf))
       rw[fY (n:=l.length) hlt (JF hl'.1)];have hq:0<=(t-1)/l[i].t/\(t-1)/l[i].t<=t-1:=⟨Int.ediv_nonneg (by omega) (by omega),Int.ediv_le_self _ (by omega)⟩
       have e0:IntKind.wrap .i64 (t-1)=t-1:=aJ (by omega) (by omega)
       rw[e0,Int.tdiv_eq_ediv_of_nonneg (by omega),aJ (n:=(t-1)/l[i].t) (by omega) (by omega),aJ (n:=(t-1)/l[i].t+1) (by omega) (by omega)]
       have e1:IntKind.wrap .i64 (l[i].c*((t-1)/l[i].t+1))=kG t l[i]:=aJ (by unfold kG at hbd;omega) (by unfold kG at hbd;omega)
       rw[e1,aJ (by omega) (by omega)]
       exact hN2 (m-1) _ (by omega) ⟨i+1,acc+kG t l[i],by omega,by omega,by omega,by omega,rfl⟩
      ·have hb2:=nA (n:=(l.map eL).length) (by simpa using hlt)
       rw[List.drop_of_length_le (by omega)] at hI
       simp only[cS] at hI;have hI:acc=cT l t:=by omega
       subst hI
       (repeat'((conv=>whnf);first|exact trivial|(with_reducible first|refine zX ?_|refine zP ?_|refine zL ?_)|refine⟨rfl,?_⟩|refine⟨_,rfl,?_⟩|refine⟨fun _=>?_,fun _=>?_⟩|refine zn ?_|refine zb rfl ?_|refine zX ?_|refine zo rfl ?_|refine zs ?_|intro _));all_goals(try(conv=>whnf))
       ·rename_i e
        rw[hs.found ht (by simpa using e)];rfl
       ·rename_i e
        have hx:=hs.next ht (by simpa using e)
        exact hN _ _ (by omega) ⟨cT l t,rfl,hx.1,rfl⟩
    ·have hb:decide (t<=20000)=false:=decide_eq_false ht
     (repeat'((conv=>whnf);first|exact trivial|(with_reducible first|refine zX ?_|refine zP ?_|refine zL ?_)|refine⟨rfl,?_⟩|refine⟨_,rfl,?_⟩|refine⟨fun _=>?_,fun _=>?_⟩|refine zn ?_|refine zb rfl ?_|refine zX ?_|refine zo rfl ?_|refine zs ?_|intro _));all_goals(try(conv=>whnf))
     rw[hs.never ht];rfl
def L3(t:Int)(x:Ld):Int:=if t≥x.d/\(t-x.d)%x.t=0 then x.c else 0
theorem G4{l:List Ld}(hl:∀x,x∈l->x.ok=true)(t:Int):cY l t=cY l (t-1)+cS (L3 t) l:=by
 induction l with
 |nil=>simp[cY,cS]
 |cons x xs ih=>
  have h1:=x9 (hl x (List.mem_cons_self ..)) t;have h2:=ih fun y hy=>hl y (List.mem_cons_of_mem _ hy)
  simp only[cY,cS] at *;unfold L3 at *;omega
theorem S4(nl:Bool)(l:List Ld):aB Tryz.prog 125 [sL nl l] (.tup [.p (.int .i64 (cQ l (bK l).1)),.p (.bool (bK l).2)]):=by
 have htm:=R5 nl l;have hrange:=qZ l;have hz:=BD (l:=l);generalize hT:bK l=T at *;obtain⟨e0,ok⟩:=T
 cases ok with
 |false=>
  have hz:=hz rfl;simp only at hz;subst hz;have hf0:cQ l 0=0:=fI fun t h1 h2=>by omega
  have hb1:decide ((1:Int)<=0)=false:=by decide
  refine Fn.run V5 rfl ?_;generalize Tryz.prog=P at *
  (repeat'((conv=>whnf);first|exact trivial|(with_reducible first|refine zX ?_|refine zP ?_|refine zL ?_)|refine⟨rfl,?_⟩|refine⟨_,rfl,?_⟩|refine⟨fun _=>?_,fun _=>?_⟩|refine zn ?_|refine zb rfl ?_|refine zX ?_|refine zo rfl ?_|refine zs ?_|intro _));all_goals(try(conv=>whnf))
  refine aX (fun n s=>s=⟨gM 61 [(0,.p (sL nl l)),(4,.p (.int .i64 0)),(5,.p (.bool false)),(6,.p (.int .i64 0)),(7,.p (.int .i64 1))],[]⟩) 0 ?_ ?_
  ·conv=>whnf
   rfl
  ·rintro n st b N e hN
   cases e
   (repeat'((conv=>whnf);first|exact trivial|(with_reducible first|refine zX ?_|refine zP ?_|refine zL ?_)|refine⟨rfl,?_⟩|refine⟨_,rfl,?_⟩|refine⟨fun _=>?_,fun _=>?_⟩|refine zn ?_|refine zb rfl ?_|refine zX ?_|refine zo rfl ?_|refine zs ?_|intro _));all_goals(try(conv=>whnf))
   show cN _=DV.tup [TV.p (.int .i64 (cQ l 0)),TV.p (.bool false)]
   rw[hf0];rfl
 |true=>
  have hl:=(lK (by rw[hT])).1
  have hl':=cW.1 hl;simp only at hrange;refine Fn.run V5 rfl ?_;generalize Tryz.prog=P at *
  (repeat'((conv=>whnf);first|exact trivial|(with_reducible first|refine zX ?_|refine zP ?_|refine zL ?_)|refine⟨rfl,?_⟩|refine⟨_,rfl,?_⟩|refine⟨fun _=>?_,fun _=>?_⟩|refine zn ?_|refine zb rfl ?_|refine zX ?_|refine zo rfl ?_|refine zs ?_|intro _));all_goals(try(conv=>whnf))
  refine aX (fun n s=>∃t:Int,n=(e0+1-t).toNat/\1<=t/\t<=e0+1/\(∀s,1<=s->s<t->cY l s<=s) /\
   s=⟨gM 61 [(0,.p (sL nl l)),(4,.p (.int .i64 e0)),(5,.p (.bool true)),(6,.p (.int .i64 (cY l (t-1)))),(7,.p (.int .i64 t))],[]⟩) e0.toNat ?_ ?_
  ·conv=>whnf
   refine⟨1,by omega,Int.le_refl _,by omega,fun s h1 h2=>by omega,?_⟩
   have:cY l (1-1)=0:=BR hl;rw[this];rfl
  ·rintro n st b N ⟨t,hn,ht1,ht2,hdone,e⟩ hN
   cases e
   by_cases hte:t<=e0
   ·have hb:decide (t<=e0)=true:=decide_eq_true hte
    have hstep:=G4 hl'.2 t;have hb1:=wQ hl (t:=t-1) (by omega)
    have hb2:=wQ hl (t:=t) (by omega)
    (repeat'((conv=>whnf);first|exact trivial|(with_reducible first|refine zX ?_|refine zP ?_|refine zL ?_)|refine⟨rfl,?_⟩|refine⟨_,rfl,?_⟩|refine⟨fun _=>?_,fun _=>?_⟩|refine zn ?_|refine zb rfl ?_|refine zX ?_|refine zo rfl ?_|refine zs ?_|intro _));all_goals(try(conv=>whnf))
    refine aX (fun n s=>∃(i:Nat) (acc:Int),n+i=l.length/\acc+cS (L3 t) (l.drop i)=cY l t/\0<=acc/\acc<=9600000000+i*20000 /\
     s=⟨gM 61 [(0,.p (sL nl l)),(4,.p (.int .i64 e0)),(5,.p (.bool true)),(6,.p (.int .i64 acc)),(7,.p (.int .i64 t)),(8,.p (.int .i64 i))],[]⟩) l.length ?_ ?_
    ·conv=>whnf
     exact⟨0,cY l (t-1),rfl,by simpa using hstep.symm,hb1.1,by omega,rfl⟩
    ·rintro m st2 b2 N2 ⟨i,acc,hi,hI,ha1,ha2,e2⟩ hN2
     cases e2
     by_cases hlt:i<l.length
     ·have hrow:(l.map eL)[i]?=some (eL l[i]):=by simp[hlt]
      have hb3:=l8 (n:=(l.map eL).length) (by simpa using hlt)
      have hokp:=Ld.ok_iff.1 (hl'.2 l[i] (List.getElem_mem _));have htn:l[i].t≠0:=by omega
      have hnx:IntKind.wrap .i64 ((i:Int)+1)=((i+1:Nat):Int):=fY (n:=l.length) hlt (JF hl'.1);rw[List.drop_eq_getElem_cons hlt] at hI;simp only[cS] at hI;have htd:t≥l[i].d->IntKind.wrap .i64 (t-l[i].d)=t-l[i].d:=fun h=>aJ (by omega) (by omega)
      (repeat'((conv=>whnf);first|exact trivial|(with_reducible first|refine zX ?_|refine zP ?_|refine zL ?_)|refine⟨rfl,?_⟩|refine⟨_,rfl,?_⟩|refine⟨fun _=>?_,fun _=>?_⟩|refine zn ?_|refine zb rfl ?_|refine zX ?_|refine zo rfl ?_|refine zs ?_|intro _));all_goals(try(conv=>whnf))
      ·rename_i e1 e2
       have e1:=of_decide_eq_true e1;rw[htd e1,Int.tmod_eq_emod_of_nonneg (by omega)] at e2
       have hin:L3 t l[i]=l[i].c:=by unfold L3;rw[if_pos ⟨e1,by simpa using e2⟩]
       rw[hnx,aJ (by omega) (by omega)]
       exact hN2 (m-1) _ (by omega) ⟨i+1,acc+l[i].c,by omega,by omega,by omega,by omega,rfl⟩
      ·rename_i e1 e2
       have e1:=of_decide_eq_true e1;rw[htd e1,Int.tmod_eq_emod_of_nonneg (by omega)] at e2
       have hin:L3 t l[i]=0:=by unfold L3;rw[if_neg fun h=>by rw[h.2] at e2;simp at e2]
       rw[hnx];exact hN2 (m-1) _ (by omega) ⟨i+1,acc,by omega,by omega,by omega,by omega,rfl⟩
      ·rename_i e1
       have e1:¬t≥l[i].d:=by simpa using e1
       have hin:L3 t l[i]=0:=by unfold L3;rw[if_neg fun h=>e1 h.1]
       rw[hnx];exact hN2 (m-1) _ (by omega) ⟨i+1,acc,by omega,by omega,by omega,by omega,rfl⟩
     ·have hb3:=nA (n:=(l.map eL).length) (by simpa using hlt)
      rw[List.drop_of_length_le (by omega)] at hI
      simp only[cS] at hI;have hI:acc=cY l t:=by omega
      subst hI
      by_cases hov:cY l t>t
      ·have hb4:decide (cY l t>t)=true:=decide_eq_true hov
       (repeat'((conv=>whnf);first|exact trivial|(with_reducible first|refine zX ?_|refine zP ?_|refine zL ?_)|refine⟨rfl,?_⟩|refine⟨_,rfl,?_⟩|refine⟨fun _=>?_,fun _=>?_⟩|refine zn ?_|refine zb rfl ?_|refine zX ?_|refine zo rfl ?_|refine zs ?_|intro _));all_goals(try(conv=>whnf))
       show cN _=DV.tup [TV.p (.int .i64 (cQ l e0)),TV.p (.bool true)]
       rw[qC ⟨ht1,hte,hov,hdone⟩]
       rfl
      ·have hb4:decide (cY l t>t)=false:=decide_eq_false hov
       (repeat'((conv=>whnf);first|exact trivial|(with_reducible first|refine zX ?_|refine zP ?_|refine zL ?_)|refine⟨rfl,?_⟩|refine⟨_,rfl,?_⟩|refine⟨fun _=>?_,fun _=>?_⟩|refine zn ?_|refine zb rfl ?_|refine zX ?_|refine zo rfl ?_|refine zs ?_|intro _));all_goals(try(conv=>whnf))
       rw[aJ (by omega) (by omega)]
       refine hN _ _ (by omega) ⟨t+1,rfl,by omega,by omega,fun s h1 h2=>?_,?_⟩
       ·by_cases hs:s=t
        ·subst hs;omega
        ·exact hdone s h1 (by omega)
       ·have:t+1-1=t:=by omega
        rw[this];rfl
   ·have hb:decide (t<=e0)=false:=decide_eq_false hte
    (repeat'((conv=>whnf);first|exact trivial|(with_reducible first|refine zX ?_|refine zP ?_|refine zL ?_)|refine⟨rfl,?_⟩|refine⟨_,rfl,?_⟩|refine⟨fun _=>?_,fun _=>?_⟩|refine zn ?_|refine zb rfl ?_|refine zX ?_|refine zo rfl ?_|refine zs ?_|intro _));all_goals(try(conv=>whnf))
    show cN _=DV.tup [TV.p (.int .i64 (cQ l e0)),TV.p (.bool true)]
    rw[fI fun s h1 h2=>hdone s h1 (by omega)]
    rfl
theorem IL(nl:Bool)(l:List Ld):aB Tryz.prog 79 [sL nl l] (.p (.bool (dO l))):=by
 have h1:=S4 nl l;rw[CQ];generalize bK l=T at *;obtain⟨e0,ok⟩:=T;refine Fn.run k79 rfl ?_;generalize Tryz.prog=P at *
 (repeat'((conv=>whnf);first|exact trivial|(with_reducible first|refine zX ?_|refine zP ?_|refine zL ?_)|refine⟨rfl,?_⟩|refine⟨_,rfl,?_⟩|refine⟨fun _=>?_,fun _=>?_⟩|refine zn ?_|refine zb rfl ?_|refine zX ?_|refine zo rfl ?_|refine zs ?_|intro _));all_goals(try(conv=>whnf))
 ·rename_i e
  exact aO (by simp only at e;subst e;rw[Bool.true_and,Bool.eq_iff_iff];simp)
 ·rename_i e
  exact aO (by simp only[Bool.not_true] at e;subst e;simp)
open Go.RowKit
def SK:Fn:=⟨107,6,[.tmp 0],
 (.sr [mc 0 (.bool false)]
 (.seq
 (.gp (.reg [⟨some 12,none,.build [.int .i64 0,.int .i64 0,.int .i64 0,.int .i64 0,.sl 1 true []] [(0,1),(2,1),(3,1)],[cI 2,cI 1,cI 1]⟩,
 ⟨some 1,none,.alloc 0 5 [Z0,Z0,Z0,Z0,.ow 1 true []],[]⟩,
 ⟨none,none,.store 5,[.t 1,.t 12]⟩]) (.lay 0 5))
 (.sr [⟨some 13,none,.build [.int .i64 0,.int .i64 0,.int .i64 0] [(0,1),(1,1),(2,1)],[cI 6,cI 10,cI 10]⟩,
 ii 14 (.bsl 3 1) [.t 13],
 ⟨some 15,none,.build [.int .i64 0,.int .i64 0,.int .i64 0] [(0,1),(1,1),(2,1)],[cI 6,cI 10,cI 10]⟩,
 ii 16 (.bsl 3 1) [.t 15],
 ii 17 (.bsl 1 2) [.t 14,.t 16],
 mt 2 17]
 (.seq
 (.gp (.reg [⟨some 18,none,.build [.int .i64 0,.int .i64 0,.int .i64 0,.sl 3 true []] [(0,1),(1,1),(2,1)],[cI 5,cI 10,cI 10]⟩,
 ⟨some 3,none,.alloc 1 4 [Z0,Z0,Z0,.ow 3 true []],[]⟩,
 ⟨none,none,.store 4,[.t 3,.t 18]⟩]) (.lay 1 4))
 (.seq
 (.gp (.reg [mv 20 2,
 ii 21 (.load 4 true false) [.t 3],
 ii 22 (.call 52) [.t 20,.t 21,cI 0],
 mv 19 22,
 ii 23 (.ext 0) [.t 19],
 ii 24 (.ext 1) [.t 19],
 ⟨some 4,none,.alloc 2 2 [Z0,.ow 4 true []],[]⟩,
 ⟨none,none,.store 2,[.t 4,.t 23]⟩,
 mt 5 24]) (.lay 2 2))
 (.seq
 (.gp (.reg [ii 26 (.bsl 1 2) [.c (.ow 3 true []),.c (.ow 3 true [])],
 ii 27 (.load 4 true false) [.t 3],
 ii 28 (.call 52) [.t 26,.t 27,cI 1],
 mv 25 28,
 ii 29 (.ext 0) [.t 25],
 ii 30 (.ext 1) [.t 25],
 ⟨some 6,none,.alloc 3 2 [Z0,.ow 4 true []],[]⟩,
 ⟨none,none,.store 2,[.t 6,.t 29]⟩,
 mt 7 30]) (.lay 3 2))
 (.seq
 (.gp (.reg [ii 32 (.load 5 true false) [.t 1],
 mv 33 2,
 ii 34 (.load 4 true false) [.t 3],
 ii 35 (.call 50) [.t 32,.t 33,.t 34],
 mv 31 35,
 ii 36 (.ext 0) [.t 31],
 ii 37 (.ext 1) [.t 31],
 ⟨some 8,none,.alloc 4 2 [Z0,.ow 4 true []],[]⟩,
 ⟨none,none,.store 2,[.t 8,.t 36]⟩,
 mt 9 37]) (.lay 4 2))
 (.seq
 (.gp (.reg [ii 39 (.load 5 true false) [.t 1],
 mv 40 2,
 ⟨some 41,none,.build [.int .i64 0,.int .i64 0,.int .i64 0,.sl 3 true []] [(0,1),(1,1),(2,1)],[cI 5,cI 20,cI 20]⟩,
 ii 42 (.call 51) [.t 39,.t 40,.t 41],
 mv 38 42,
 ii 43 (.ext 0) [.t 38],
 ii 44 (.ext 1) [.t 38],
 ⟨some 10,none,.alloc 5 2 [Z0,.ow 4 true []],[]⟩,
 ⟨none,none,.store 2,[.t 10,.t 43]⟩,
 mt 11 44]) (.lay 5 2))
 (.sr [ii 45 (.call 184) [],
 mv 46 45,
 gt 47 46 (.mov false) [.t 5],
 gt 48 46 (.un .not) [.t 47],
 ii 49 .pick [.t 46,.t 48,.c (.p (.bool false))],
 mv 50 49,
 gt 51 50 (.mov false) [.t 7],
 ii 52 .pick [.t 50,.t 51,.c (.p (.bool false))],
 mv 53 52,
 gt 54 53 (.fad 0) [.t 6],
 gt 55 53 (.load 1 false false) [.t 54],
 gt 56 53 (.bin .eql) [.t 55,cI 1],
 ii 57 .pick [.t 53,.t 56,.c (.p (.bool false))],
 mv 58 57,
 gt 59 58 (.fad 1) [.t 6],
 gt 60 58 (.load 1 false false) [.t 59],
 gt 61 58 .len [.t 60],
 gt 62 58 (.bin .eql) [.t 61,cI 1],
 ii 63 .pick [.t 58,.t 62,.c (.p (.bool false))],
 mv 64 63,
 gt 65 64 (.mov false) [.t 9],
 gt 66 64 (.load 5 true false) [.t 1],
 gt 67 64 (.load 4 true false) [.t 3],
 gt 68 64 (.load 2 true false) [.t 8],
 gt 69 64 (.call 185) [.t 66,.t 67,.t 68],
 gt 70 64 (.eqb false) [.t 65,.t 69],
 ii 71 .pick [.t 64,.t 70,.c (.p (.bool false))],
 mv 72 71,
 gt 73 72 (.mov false) [.t 11],
 gt 74 72 (.load 5 true false) [.t 1],
 ⟨some 75,(some (72,true)),.build [.int .i64 0,.int .i64 0,.int .i64 0,.sl 3 true []] [(0,1),(1,1),(2,1)],[cI 5,cI 20,cI 20]⟩,
 gt 76 72 (.load 2 true false) [.t 10],
 gt 77 72 (.call 185) [.t 74,.t 75,.t 76],
 gt 78 72 (.eqb false) [.t 73,.t 77],
 ii 79 .pick [.t 72,.t 78,.c (.p (.bool false))],
 mv 80 79,
 gt 81 80 (.load 5 true false) [.t 1],
 gt 82 80 (.load 4 true false) [.t 3],
 gt 83 80 (.call 82) [.t 81,.t 82,cI 2],
 gt 84 80 (.bin .eql) [.t 83,cI 4],
 ii 85 .pick [.t 80,.t 84,.c (.p (.bool false))],
 mv 86 85,
 gt 87 86 (.load 2 true false) [.t 6],
 gt 88 86 (.call 186) [.t 87],
 gt 89 86 (.bin .eql) [.t 88,cI 5],
 ii 90 .pick [.t 86,.t 89,.c (.p (.bool false))],
 mv 91 90,
 gt 92 91 (.load 2 true false) [.t 6],
 gt 93 91 (.call 26) [.t 92,cI 0,cI 7],
 gt 94 91 (.bin .eql) [.t 93,cI 17],
 ii 95 .pick [.t 91,.t 94,.c (.p (.bool false))],
 mv 96 95,
 gt 97 96 (.load 2 true false) [.t 6],
 gt 98 96 (.load 2 true false) [.t 6],
 gt 99 96 (.call 187) [.t 97,.t 98],
 ii 100 .pick [.t 96,.t 99,.c (.p (.bool false))],
 mv 101 100,
 gt 102 101 (.mov false) [.t 2],
 ⟨some 103,(some (101,true)),.build [.int .i64 0,.int .i64 0,.int .i64 0] [(0,1),(1,1),(2,1)],[cI 1,cI 10,cI 10]⟩,
 gt 104 101 (.call 86) [.t 102,.t 103],
 gt 105 101 (.bin .eql) [.t 104,cI 0],
 ii 106 .pick [.t 101,.t 105,.c (.p (.bool false))],
 mt 0 106]
 .ret)))))))))⟩
theorem V7:aC Tryz.prog 155 SK=true:=by kernel_rfl
def F16:Fn:=⟨10,2,[.cell 2 5],
 (.sr [ii 1 (.box 0 5) [.t 0],
 ⟨some 2,none,.alloc 1 5 [Z0,Z0,Z0,Z0,.ow 1 true []],[]⟩]
 (.seq
 (.seq
 (.gp (.reg [ii 3 (.load 5 true false) [.t 1],
 ii 4 (.call 45) [.t 3],
 ⟨none,none,.store 5,[.t 1,.t 4]⟩]) (.lay 0 5))
 (.sr [ii 5 (.load 5 true false) [.t 1],
 ii 6 (.call 46) [.t 5]]
 (.cond (.t 6)
 (.seq
 (.gp (.reg [ii 7 (.load 5 true false) [.t 1],
 ⟨none,none,.store 5,[.t 2,.t 7]⟩]) (.lay 1 5))
 .ret)
 .skip)))
 (.seq
 (.gp (.reg [ii 8 (.bsl 1 1) [cI 0],
 ⟨some 9,none,.build [.int .i64 0,.int .i64 0,.int .i64 0,.int .i64 0,.sl 1 true []] [(0,1),(1,1),(2,1),(3,1),(4,1)],[cI 2,cI 1,cI 1,cI 1,.t 8]⟩,
 ⟨none,none,.store 5,[.t 2,.t 9]⟩]) (.lay 1 5))
 .ret)))⟩
theorem YM:aC Tryz.prog 16 F16=true:=by kernel_rfl
def F49:Fn:=⟨35,2,[.tmp 4],
 (.sr [ii 2 (.box 0 5) [.t 0],
 ii 4 (.mov true) [.c (.ow 1 true [])]]
 (.sr [fa 8 0 2,
 ld 9 8,
 ⟨some 10,none,.mksl 1 1 24 false [.ow 3 true []],[.t 9,.t 9]⟩,
 mt 5 10]
 (.seq
 (.sr [mc 6 (.int .i64 0)]
 (.block 0
 (.loop [0,4,7,8,9,10,11,12,13,14,15,16,17,18,19,20,21,22,23,24,25,26,27,28,29,30,31,32,33,34] []
 (.seq
 (.sr [mv 11 6,
 fa 12 0 2,
 ld 13 12,
 b2 14 .lss 11 13,
 mv 15 14,
 gt 16 15 (.mov false) [.t 6],
 gt 17 15 (.mov false) [.t 1],
 gt 18 15 .len [.t 17],
 gt 19 15 (.bin .lss) [.t 16,.t 18],
 ii 20 .pick [.t 15,.t 19,.c (.p (.bool false))]]
 (.cond (.t 20)
 .skip
 (.exit 0)))
 (.seq
 (.block 1
 (.sr [mv 23 1,
 mv 24 6,
 ii 25 (.iad 1) [.t 23,.t 24],
 ld 26 25,
 ii 27 (.call 78) [.t 26],
 mt 7 27]
 (.sr [mv 28 7,
 ii 29 (.call 79) [.t 28]]
 (.cond (.t 29)
 (.reg [mv 30 5,
 mv 31 6,
 mv 32 7,
 ii 33 (.iad 1) [.t 30,.t 31],
 ⟨none,none,.store 1,[.t 33,.t 32]⟩])
 .skip))))
 (.reg [mv 21 6,
 b1 22 .add 21 (.int .i64 1),
 mt 6 22]))))))
 (.sr [mv 34 5,
 mt 4 34]
 (.pre [] [1] [] .ret)))))⟩
theorem k49:aC Tryz.prog 49 F49=true:=by kernel_rfl
def F17:Fn:=⟨12,3,[.cell 4 4,.tmp 5],
 (.sr [ii 2 (.box 0 5) [.t 0],
 ii 3 (.box 1 4) [.t 1],
 ⟨some 4,none,.alloc 2 4 [Z0,Z0,Z0,.ow 3 true []],[]⟩,
 mc 5 (.bool false)]
 (.seq
 (.gp (.reg [ii 6 (.load 4 true false) [.t 3],
 ii 7 (.call 47) [.t 6],
 ⟨none,none,.store 4,[.t 3,.t 7]⟩]) (.lay 1 4))
 (.seq
 (.gp (.regd [ii 8 (.at 1 (.load 4 true false)) [.t 3],
 ii 9 (.at 0 (.load 5 true false)) [.t 2],
 ii 10 (.at 1 (.load 4 true false)) [.t 3],
 ii 11 (.pl (.call 48)) [.t 9,.t 10],
 ⟨none,none,.at 2 (.store 4),[.t 4,.t 8]⟩,
 mt 5 11]) (.lay 2 4))
 .ret)))⟩
theorem k17:aC Tryz.prog 17 F17=true:=by kernel_rfl
def F52:Fn:=⟨31,2,[.cell 6 2,.tmp 7],
 (.sr [ii 4 (.box 0 4) [.t 1],
 ⟨some 6,none,.alloc 1 2 [Z0,.ow 4 true []],[]⟩,
 mc 7 (.bool false)]
 (.sr [mv 9 0,
 fa 10 0 4,
 ld 11 10,
 mv 12 2,
 b2 13 .add 11 12,
 fa 14 1 4,
 ld 15 14,
 fa 16 2 4,
 ld 17 16,
 ⟨some 18,none,.build [.int .i64 0,.int .i64 0,.int .i64 0] [(0,1),(1,1),(2,1)],[.t 13,.t 15,.t 17]⟩,
 ii 19 (.call 86) [.t 9,.t 18],
 mt 8 19]
 (.seq
 (.sr [mv 20 8,
 b1 21 .lss 20 (.int .i64 0)]
 (.cond (.t 21)
 (.seq
 (.gp (.reg [⟨some 22,none,.build [.int .i64 0,.sl 4 true []] [],[]⟩,
 ⟨none,none,.store 2,[.t 6,.t 22]⟩,
 mc 7 (.bool false)]) (.lay 1 2))
 .ret)
 .skip))
 (.seq
 (.gp (.reg [mv 23 8,
 fa 24 1 4,
 ld 25 24,
 fa 26 0 4,
 ld 27 26,
 ⟨some 28,none,.build [.int .i64 0,.int .i64 0,.int .i64 0,.int .i64 0] [(0,1),(2,1),(3,1)],[.t 23,.t 25,.t 27]⟩,
 ii 29 (.bsl 4 1) [.t 28],
 ⟨some 30,none,.build [.int .i64 0,.sl 4 true []] [(0,1),(1,1)],[cI 1,.t 29]⟩,
 ⟨none,none,.store 2,[.t 6,.t 30]⟩,
 mc 7 (.bool true)]) (.lay 1 2))
 .ret))))⟩
theorem k52:aC Tryz.prog 52 F52=true:=by kernel_rfl
def ZG:Fn:=⟨8,1,[.tmp 4],
 (.sr [ii 3 (.box 0 3) [.t 1],
 mc 4 (.int .i64 0)]
 (.seq
 (.pre [] [0] [] (.reg [mv 5 0,
 ii 6 (.mkfn 139) [.t 3],
 ii 7 (.call 138) [.t 5,.t 6],
 mt 4 7]))
 .ret))⟩
theorem k86:aC Tryz.prog 86 ZG=true:=by kernel_rfl
end Go.Proofs.YtnjphclbpgajpaaGreatDoor.Vc
namespace Go.Proofs.YtnjphclbpgajpaaGreatDoor.Ma
def jP{α:Type}(lt : α -> α->Bool)(e : α):List α->List α
 |[]=>[e]
 |b ::bs=>if lt e b then b ::jP lt e bs else e ::b ::bs
def HN{α:Type}(lt : α -> α->Bool)(l:List α):List α:=l.foldl (fun acc e=>jP lt e acc) []
def kL{α:Type}(lt : α -> α->Bool)(l:List α):List α:=(HN lt l).reverse
theorem l9{α:Type}(lt : α -> α->Bool)(e : α)(l:List α):(jP lt e l).Perm (e ::l):=by
 induction l with
 |nil=>exact .refl _
 |cons b bs ih=>
  simp only[jP]
  split
  ·exact(ih.cons b).trans (.swap e b bs)
  ·exact .refl _
theorem ED{α:Type}(lt : α -> α->Bool)(l:List α):(HN lt l).Perm l:=by
 suffices ∀(l acc:List α),(l.foldl (fun acc e=>jP lt e acc) acc).Perm (acc++l) by simpa [HN] using this l []
 intro l
 induction l with
 |nil=>intro acc;simp
 |cons e es ih=>
  intro acc;simp only[List.foldl_cons];refine(ih _).trans ?_;refine((l9 lt e acc).append_right es).trans ?_;exact List.perm_middle.symm
theorem i3{α:Type}(lt : α -> α->Bool)(l:List α):(kL lt l).Perm l:=(List.reverse_perm _).trans (ED lt l)
theorem yF{α:Type}(lt : α -> α->Bool)(l:List α):(kL lt l).length=l.length:=(i3 lt l).length_eq
theorem vR{α:Type}{lt : α -> α->Bool}{r : α -> α->Prop}(e : α)(htr:∀a b c,r a b->r b c->r a c) :
  ∀(l:List α),(∀b,b∈l->(lt e b=true->r e b)/\(lt e b=false->r b e))->l.Pairwise (fun a b=>r b a)->(jP lt e l).Pairwise fun a b=>r b a:=by
 intro l
 induction l with
 |nil=>intro _ _;simp[jP]
 |cons b bs ih=>
  intro he hp;rw[List.pairwise_cons] at hp;simp only[jP]
  split
  ·rename_i h
   rw[List.pairwise_cons];refine⟨fun x hx=>?_,ih (fun y hy=>he y (List.mem_cons_of_mem _ hy)) hp.2⟩
   rcases List.mem_cons.1 ((l9 lt e bs).mem_iff.1 hx) with rfl|hx
   ·exact(he b (List.mem_cons_self ..)).1 h
   ·exact hp.1 x hx
  ·rename_i h
   have hb:=(he b (List.mem_cons_self ..)).2 (by simpa using h)
   rw[List.pairwise_cons];refine⟨fun x hx=>?_,List.pairwise_cons.2 hp⟩
   rcases List.mem_cons.1 hx with rfl|hx
   ·exact hb
   ·exact htr _ _ _ (hp.1 x hx) hb
theorem oD{α:Type}{lt : α -> α->Bool}{r : α -> α->Prop}(htr:∀a b c,r a b->r b c->r a c)(l:List α)
  (h:l.Pairwise fun a b=>(lt b a=true->r b a)/\(lt b a=false->r a b)):(kL lt l).Pairwise r:=by
 unfold kL;rw[List.pairwise_reverse]
 suffices ∀(l acc:List α),acc.Pairwise (fun a b=>r b a)->(∀a,a∈acc->∀b,b∈l->(lt b a=true->r b a)/\(lt b a=false->r a b)) ->
   l.Pairwise (fun a b=>(lt b a=true->r b a)/\(lt b a=false->r a b))->(l.foldl (fun acc e=>jP lt e acc) acc).Pairwise fun a b=>r b a from this l [] List.Pairwise.nil (fun a h=>by cases h) h
 intro l
 induction l with
 |nil=>intro acc h _ _;exact h
 |cons e es ih=>
  intro acc hacc h1 h2;rw[List.pairwise_cons] at h2;simp only[List.foldl_cons];refine ih _ (vR e htr acc (fun b hb=>h1 b hb e (List.mem_cons_self ..)) hacc) (fun a ha b hb=>?_) h2.2
  rcases List.mem_cons.1 ((l9 lt e acc).mem_iff.1 ha) with rfl|ha
  ·exact h2.1 b hb
  ·exact h1 a ha b (List.mem_cons_of_mem _ hb)
structure Place where
 core:Int
 x:Int
deriving DecidableEq
def Place.ahead(a b:Place):Prop:=b.x<a.x\/(a.x=b.x/\a.core<b.core)
theorem AQ(a b c:Place)(h1:a.ahead b)(h2:b.ahead c):a.ahead c:=by unfold Place.ahead at *;omega
theorem wX(a:Place):¬a.ahead a:=by unfold Place.ahead;omega
theorem D0(a b:Place)(h:a.ahead b):¬b.ahead a:=by unfold Place.ahead at *;omega
def NM(a b:Place):Bool:=decide (b.x<a.x)
def UD(a b:Place):Bool:=decide (a.core<b.core)
theorem U7(l:List Place)(h:l.Pairwise fun a b=>a.core<b.core):(kL NM l).Pairwise Place.ahead:=by
 refine oD AQ l (h.imp fun {a b} hab=>⟨fun h=>?_,fun h=>?_⟩)
 ·simp only[NM,decide_eq_true_eq] at h;exact .inl h
 ·simp only[NM,decide_eq_false_iff_not] at h;unfold Place.ahead;omega
theorem WC(l:List Place)(h:l.Pairwise fun a b=>a.core≠b.core):(kL UD l).Pairwise fun a b=>a.core<b.core:=by
 refine oD (fun a b c h1 h2=>by omega) l (h.imp fun {a b} hab=>⟨fun h=>?_,fun h=>?_⟩)
 ·simpa [UD] using h
 ·simp only[UD,decide_eq_false_iff_not] at h;omega
def BL(l:List Place)(n:Nat):List Place:=if l.length<n then [] else kL UD ((kL NM l).take n)
theorem TM{l:List Place}(h:l.Pairwise fun a b=>a.core<b.core):l.Pairwise fun a b=>a.core≠b.core:=h.imp fun hab=>by omega
theorem KZ{l:List Place}(h:l.Pairwise fun a b=>a.core<b.core)(n:Nat):((kL NM l).take n).Pairwise fun a b=>a.core≠b.core:=by
 have h1:(kL NM l).Pairwise fun a b=>a.core≠b.core:=((i3 NM l).pairwise_iff (fun {a b} h=>Ne.symm h)).2 (TM h)
 exact h1.sublist (List.take_sublist _ _)
theorem xU{l:List Place}{n:Nat}(h:l.Pairwise fun a b=>a.core<b.core):(BL l n).Pairwise fun a b=>a.core<b.core:=by
 unfold BL
 split
 ·exact List.Pairwise.nil
 ·exact WC _ (KZ h n)
def dL(move:Int):Int->List Int->List Place
 |_,[]=>[]
 |k,x ::xs=>if move<x then ⟨k,x⟩ ::dL move (k+1) xs else dL move (k+1) xs
def places(move:Int)(xs:List Int):List Place:=dL move 0 xs
theorem kS{move:Int}{xs:List Int}:∀{k:Int} {p:Place},p∈dL move k xs↔k<=p.core/\xs[(p.core-k).toNat]?=some p.x/\move<p.x:=by
 induction xs with
 |nil=>intro k p;simp[dL]
 |cons x xs ih=>
  intro k p
  have key:(k+1<=p.core/\xs[(p.core-(k+1)).toNat]?=some p.x/\move<p.x)↔(k<=p.core/\p.core≠k/\(x ::xs)[(p.core-k).toNat]?=some p.x/\move<p.x):=by
   by_cases hk:k+1<=p.core
   ·have e:(p.core-k).toNat=(p.core-(k+1)).toNat+1:=by omega
    rw[e,List.getElem?_cons_succ]
    constructor
    ·exact fun ⟨_,h2,h3⟩=>⟨by omega,by omega,h2,h3⟩
    ·exact fun ⟨_,_,h2,h3⟩=>⟨hk,h2,h3⟩
   ·constructor
    ·exact fun h=>absurd h.1 hk
    ·exact fun h=>absurd h.2.1 (by omega)
  have hd:p.core=k->((x ::xs)[(p.core-k).toNat]?=some p.x↔p=⟨k,x⟩):=by
   intro e;have e0:(p.core-k).toNat=0:=by omega
   rw[e0,List.getElem?_cons_zero];cases p
   simp only[bQ,Place.mk.injEq] at *
   constructor
   ·exact fun h=>⟨e,h.symm⟩
   ·exact fun h=>h.2.symm
  simp only[dL]
  split
  ·rename_i hx
   rw[List.mem_cons,ih,key]
   constructor
   ·rintro(rfl|h)
    ·exact⟨Int.le_refl _,by simp,hx⟩
    ·exact⟨h.1,h.2.2.1,h.2.2.2⟩
   ·rintro⟨h1,h2,h3⟩
    by_cases e:p.core=k
    ·exact .inl ((hd e).1 h2)
    ·exact .inr ⟨h1,e,h2,h3⟩
  ·rename_i hx
   rw[ih,key]
   constructor
   ·exact fun h=>⟨h.1,h.2.2.1,h.2.2.2⟩
   ·rintro⟨h1,h2,h3⟩
    refine⟨h1,fun e=>?_,h2,h3⟩
    have:=(hd e).1 h2;subst this;exact hx h3
theorem oH{move:Int}{xs:List Int}:∀{k:Int},(dL move k xs).Pairwise fun a b=>a.core<b.core:=by
 induction xs with
 |nil=>exact List.Pairwise.nil
 |cons x xs ih=>
  intro k;simp only[dL]
  split
  ·refine List.pairwise_cons.2 ⟨fun p hp=>?_,ih⟩
   have:=(kS.1 hp).1;simp only;omega
  ·exact ih
theorem E3{move:Int}{xs:List Int}{p:Place}:p∈places move xs↔0<=p.core/\xs[p.core.toNat]?=some p.x/\move<p.x:=by
 unfold places;rw[kS];simp
theorem mQ{move:Int}{xs:List Int}:(places move xs).Pairwise fun a b=>a.core<b.core:=oH
theorem JZ:∀(l m:List Int),l.Pairwise (· < ·)->m.Pairwise (· < ·)->(∀x,x∈l↔x∈m)->l=m:=by
 intro l
 induction l with
 |nil=>
  intro m _ _ h
  cases m with
  |nil=>rfl
  |cons b m=>exact absurd ((h b).2 (List.mem_cons_self ..)) (by simp)
 |cons a l ih=>
  intro m hl hm h
  cases m with
  |nil=>exact absurd ((h a).1 (List.mem_cons_self ..)) (by simp)
  |cons b m=>
   rw[List.pairwise_cons] at hl hm
   have hab:a=b:=by
    rcases List.mem_cons.1 ((h a).1 (List.mem_cons_self ..)) with e|ha
    ·exact e
    ·rcases List.mem_cons.1 ((h b).2 (List.mem_cons_self ..)) with e|hb
     ·exact e.symm
     ·have:=hl.1 b hb;have:=hm.1 a ha;omega
   subst hab;rw[ih m hl.2 hm.2 fun x=>?_]
   constructor
   ·intro hx
    rcases List.mem_cons.1 ((h x).1 (List.mem_cons_of_mem _ hx)) with e|h'
    ·have:=hl.1 x hx;omega
    ·exact h'
   ·intro hx
    rcases List.mem_cons.1 ((h x).2 (List.mem_cons_of_mem _ hx)) with e|h'
    ·have:=hm.1 x hx;omega
    ·exact h'
section greedy
variable {l:List Place}
theorem AB{L:List Place}(h:L.Pairwise Place.ahead){i:Nat}{p:Place}(hp:p∈L)(hn:p∉L.take i)(ha:∀q,q∈L->q∉L.take i->q≠p->p.ahead q):L[i]?=some p:=by
 obtain⟨j,hj,e⟩:=List.mem_iff_getElem.1 hp
 have hij:i<=j:=by
  refine Nat.le_of_not_lt fun hlt=>hn ?_
  rw[<-e];exact List.mem_iff_getElem.2 ⟨j,by simp;omega,by simp⟩
 have hi:i<L.length:=by omega
 by_cases hji:j=i
 ·subst hji;rw[List.getElem?_eq_getElem hj,e]
 ·have h1:=List.pairwise_iff_getElem.1 h i j hi hj (by omega)
  rw[e] at h1
  have h2:L[i]∉L.take i:=by
   intro hm;obtain⟨k,hk,ek⟩:=List.mem_iff_getElem.1 hm;rw[List.getElem_take] at ek;have:=List.pairwise_iff_getElem.1 h k i (by simp at hk;omega) hi (by simp at hk;omega)
   rw[ek] at this;exact wX _ this
  have h3:=ha L[i] (List.getElem_mem _) h2 (fun e'=>by rw[e'] at h1;exact wX _ h1)
  exact absurd h1 (D0 _ _ h3)
end greedy
structure Pc where
 core:Int
 off:Int
 len:Int
 c:Int
deriving DecidableEq
def Pc.ok(cores:Int)(p:Pc):Bool:=decide (0<=p.core)&&decide (p.core<cores)&&(decide (0<=p.off)&&decide (p.off<=200))&&(decide (1<=p.c)&&decide (p.c<=p.len)&&decide (p.off+p.len<=200))
theorem Pc.ok_iff{cores:Int}{p:Pc}:p.ok cores=true↔(0<=p.core/\p.core<cores)/\(0<=p.off/\p.off<=200)/\1<=p.c/\p.c<=p.len/\p.off+p.len<=200:=by
 simp[Pc.ok,and_assoc]
def fM:List Pc->Int
 |[]=>0
 |p ::ps=>p.c+fM ps
theorem rF(a b:List Pc):fM (a++b)=fM a+fM b:=by
 induction a with
 |nil=>simp[fM]
 |cons x xs ih=>simp only[List.cons_append,fM,ih];omega
def gA(lag move:Int):List Pc->Prop
 |a ::b ::ps=>(a.off+a.len+lag<=b.off/\move<b.c)/\gA lag move (b ::ps)
 |_=>True
def yO:List Pc->Int
 |[]=>0
 |[p]=>p.off+p.len
 |_ ::p ::ps=>yO (p ::ps)
def dP:List Pc->Int
 |[]=>0
 |p ::_=>p.off
def P6(D:Int)(nsec:Nat)(kind:Int)(ps:List Pc):Prop :=
 (kind=1/\∃p,ps=[p]/\p.len=D)\/(kind=2/\2<=ps.length/\nsec=0)\/(kind=3/\nsec=0/\∃p q,ps=[p,q]/\p.len=p.c)
structure PlanOk (cores lag move C D:Int) (nsec:Nat) (kind:Int) (ps:List Pc):Prop where
 pcs:∀p,p∈ps->p.ok cores=true
 apart:ps.Pairwise fun a b=>a.core≠b.core
 one:ps≠[]
 first:dP ps=0
 next:gA lag move ps
 sum:fM ps=C+(ps.length-1:Int)*move
 last:yO ps<=D
 kind:P6 D nsec kind ps
open Classical in
structure Lim (cores lag move C D T:Int):Prop where
 c1:1<=cores
 c2:cores<=6
 l1:0<=lag
 l2:lag<=5
 m1:0<=move
 m2:move<=5
 C1:1<=C
 CD:C<=D
 DT:D<=T
 T2:T<=200
variable {cores lag move C D T:Int}
structure WinOk (lag move C D T:Int) (ls:List (List Ld)) (ps:List Pc) (w:Int):Prop where
 w1:1<=w
 two:2<=ps.length
 le:ps.length<=ls.length
 time:(ps.length:Int)*w+(ps.length-1:Int)*lag<=D
 sum:fM ps=C+(ps.length-1:Int)*move
 asc:ps.Pairwise fun a b=>a.core<b.core
 each:∀(i:Nat) q,ps[i]?=some q->q.off=(i:Int)*(w+lag)/\q.len=w/\1<=q.c/\q.c<=w/\(0<i->move<q.c)/\0<=q.core/\∃l,ls[q.core.toNat]?=some l/\iP l q.c w T=true
structure ZeroOk (lag move C D T:Int) (ls:List (List Ld)) (ps:List Pc):Prop where
 it:∃(a b:Nat) (x:Int),a≠b/\a<ls.length/\b<ls.length/\1<=x/\x<=C-1/\C-x+move<=D-x-lag/\iP (ls[a]?.getD []) x x T=true/\iP (ls[b]?.getD []) (C-x+move) (D-x-lag) T=true /\
  ps=[⟨a,0,x,x⟩,⟨b,x+lag,D-x-lag,C-x+move⟩]
theorem CS(hL:Lim cores lag move C D T){k:Int}{nsec:Nat}(h1:0<=k)(h2:k<cores):PlanOk cores lag move C D nsec 1 [⟨k,0,D,C⟩]:=by
 obtain⟨c1,c2,l1,l2,m1,m2,C1,CD,DT,T2⟩:=hL;refine⟨fun p hp=>?_,by simp,by simp,rfl,trivial,by simp[fM],by simp[yO],.inl ⟨rfl,_,rfl,rfl⟩⟩
 simp only[List.mem_singleton] at hp;subst hp;rw[Pc.ok_iff];simp only;omega
structure Inner (xs:List Int) (move:Int) (taken:List Bool) (j:Nat) (k:Int):Prop where
 none:k<0->k = -1/\∀m x,m<j->taken[m]?=some false->xs[m]?=some x->x<=move
 some:¬k<0->∃y,k<j/\taken[k.toNat]?=some false/\xs[k.toNat]?=some y/\move<y/\∀m x,m<j->(m:Int)≠k->taken[m]?=some false->xs[m]?=some x->move<x->x<y\/(x=y/\k<m)
theorem Inner.start(xs:List Int)(move:Int)(taken:List Bool):Inner xs move taken 0 (-1) :=
 ⟨fun _=>⟨rfl,fun m x h=>absurd h (Nat.not_lt_zero m)⟩,fun h=>absurd (by omega) h⟩
theorem Inner.skip{xs:List Int}{move:Int}{taken:List Bool}{j:Nat}{k:Int}(h:Inner xs move taken j k){b:Bool}{x:Int}(hb:taken[j]?=Option.some b)(hx:xs[j]?=Option.some x)
  (hn:b=true\/x<=move\/(¬k<0/\∀y,xs[k.toNat]?=Option.some y->x<=y)):Inner xs move taken (j+1) k:=by
 refine⟨fun hk=>⟨(h.none hk).1,fun m z hm hz hxm=>?_⟩,fun hk=>?_⟩
 ·by_cases e:m=j
  ·subst e
   rw[hb] at hz;rw[hx] at hxm;injection hz with hz;injection hxm with hxm
   subst hz;subst hxm;rcases hn with h1|h1|h1
   ·cases h1
   ·exact h1
   ·exact absurd hk h1.1
  ·exact(h.none hk).2 m z (by omega) hz hxm
 ·obtain⟨y,h1,h2,h3,h4,h5⟩:=h.some hk
  refine⟨y,by omega,h2,h3,h4,fun m z hm hmk hz hxm hmv=>?_⟩
  by_cases e:m=j
  ·subst e
   rw[hb] at hz;rw[hx] at hxm;injection hz with hz;injection hxm with hxm
   subst hz;subst hxm;rcases hn with h'|h'|h'
   ·cases h'
   ·omega
   ·have:=h'.2 y h3;omega
  ·exact h5 m z (by omega) hmk hz hxm hmv
theorem Inner.take{xs:List Int}{move:Int}{taken:List Bool}{j:Nat}{k:Int}(h:Inner xs move taken j k){x:Int}(hb:taken[j]?=Option.some false)(hx:xs[j]?=Option.some x)(hm:move<x)
  (hn:k<0\/∃y,xs[k.toNat]?=Option.some y/\y<x):Inner xs move taken (j+1) j:=by
 refine⟨fun hk=>absurd hk (by omega),fun _=>⟨x,by omega,by simpa using hb,by simpa using hx,hm,fun m z hmj hmk hz hxm hmv=>?_⟩⟩
 have hmj':m<j:=by omega
 rcases hn with hk|⟨y,hy,hlt⟩
 ·have:=(h.none hk).2 m z hmj' hz hxm;omega
 ·by_cases hk:k<0
  ·have:=(h.none hk).2 m z hmj' hz hxm;omega
  ·obtain⟨y',h1,h2,h3,h4,h5⟩:=h.some hk
   rw[hy] at h3;injection h3 with h3
   subst h3
   by_cases e:(m:Int)=k
   ·have e':k.toNat=m:=by omega
    rw[e',hxm] at hy;injection hy with hy
    omega
   ·have:=h5 m z hmj' e hz hxm hmv;omega
def dZ(move:Int)(xs:List Int):List Place:=kL NM (places move xs)
theorem uZ{move:Int}{xs:List Int}:(dZ move xs).Pairwise Place.ahead:=U7 _ mQ
theorem fQ{move:Int}{xs:List Int}{p:Place}:p∈dZ move xs↔0<=p.core/\xs[p.core.toNat]?=some p.x/\move<p.x:=by
 unfold dZ;rw[(i3 _ _).mem_iff,E3]
theorem sY{move:Int}{xs:List Int}:(dZ move xs).length=(places move xs).length:=yF _ _
structure Outer (xs:List Int) (move:Int) (i:Nat) (taken:List Bool):Prop where
 len:taken.length=xs.length
 le:i<=(places move xs).length
 iff:∀m:Nat,taken[m]?=some true↔∃p,p∈(dZ move xs).take i/\p.core=m
theorem Outer.start(xs:List Int)(move:Int):Outer xs move 0 (List.replicate xs.length false):=by
 refine⟨by simp,Nat.zero_le _,fun m=>?_⟩
 simp[List.getElem?_replicate]
theorem Outer.false{xs:List Int}{move:Int}{i:Nat}{taken:List Bool}(h:Outer xs move i taken){p:Place}(hp:p∈dZ move xs)(hn:p∉(dZ move xs).take i):taken[p.core.toNat]?=some false:=by
 have hm:=fQ.1 hp;have hlt:=(bM.1 hm.2.1).1;rw[<-h.len] at hlt;rw[List.getElem?_eq_getElem hlt]
 cases hb:taken[p.core.toNat] with
 |false=>rfl
 |true=>
  obtain⟨q,hq,e⟩:=(h.iff p.core.toNat).1 (by rw[List.getElem?_eq_getElem hlt,hb])
  have hq':=fQ.1 (List.mem_of_mem_take hq);have e1:q.core=p.core:=by omega
  have e2:q.x=p.x:=by have:=hq'.2.1;rw[e1,hm.2.1] at this;injection this with h;exact h.symm
  have:q=p:=by cases q;cases p;simp only[Place.mk.injEq] at *;exact⟨e1,e2⟩
  subst this;exact absurd hq hn
theorem Outer.next{xs:List Int}{move:Int}{i:Nat}{taken:List Bool}(h:Outer xs move i taken){k:Int}(hi:Inner xs move taken xs.length k)(hk:¬k<0):Outer xs move (i+1) (taken.set k.toNat true):=by
 obtain⟨y,h1,h2,h3,h4,h5⟩:=hi.some hk;have hp:(⟨k,y⟩:Place)∈dZ move xs:=fQ.2 ⟨by simp only;omega,h3,h4⟩
 have hn:(⟨k,y⟩:Place)∉(dZ move xs).take i:=fun hm=>by
  have:=(h.iff k.toNat).2 ⟨_,hm,by simp only;omega⟩
  rw[h2] at this;cases this
 have hL:=AB uZ hp hn fun q hq hnq hne=>by
  have hm:=fQ.1 hq
  have hqk:q.core≠k:=fun e=>hne (by
   have:=hm.2.1;rw[e,h3] at this;injection this with this
   cases q
   simp only[Place.mk.injEq] at *;exact⟨e,this.symm⟩)
  have:=h5 q.core.toNat q.x (bM.1 hm.2.1).1 (by omega) (h.false hq hnq) hm.2.1 hm.2.2
  unfold Place.ahead;simp only;omega
 have hlt:=(bM.1 hL).1;rw[sY] at hlt;refine⟨by rw[List.length_set];exact h.len,hlt,fun m=>?_⟩
 have htk:(dZ move xs).take (i+1)=(dZ move xs).take i++[⟨k,y⟩]:=by rw[List.take_add_one,hL];rfl
 rw[htk,List.getElem?_set];have hkl:k.toNat<taken.length:=(bM.1 h2).1
 split
 ·rename_i e
  subst e;exact⟨fun _=>⟨⟨k,y⟩,by simp,by simp only;omega⟩,fun _=>rfl⟩
 ·rename_i e
  rw[h.iff m]
  constructor
  ·rintro⟨p,hp,e'⟩;exact⟨p,by simp[hp],e'⟩
  ·rintro⟨p,hp,e'⟩
   rcases List.mem_append.1 hp with hp|hp
   ·exact⟨p,hp,e'⟩
   ·simp only[List.mem_singleton] at hp;subst hp;simp only at e';omega
def iL(taken:List Bool):Nat->List Int
 |0=>[]
 |j+1=>if taken[j]?=some true then iL taken j++[(j:Int)] else iL taken j
theorem rG{taken:List Bool}{j:Nat}{x:Int}:x∈iL taken j↔0<=x/\x<j/\taken[x.toNat]?=some true:=by
 induction j with
 |zero=>simp[iL];omega
 |succ j ih=>
  have key:∀{A:Prop},(x=(j:Int)->A)->(x≠(j:Int)->A)->A:=fun h1 h2=>(Classical.em (x=(j:Int))).elim h1 h2
  simp only[iL]
  split
  ·rename_i h
   rw[List.mem_append,ih,List.mem_singleton]
   constructor
   ·rintro(⟨h1,h2,h3⟩|rfl)
    ·exact⟨h1,by omega,h3⟩
    ·exact⟨by omega,by omega,by simpa using h⟩
   ·rintro⟨h1,h2,h3⟩
    exact key (fun e=>.inr e) fun e=>.inl ⟨h1,by omega,h3⟩
  ·rename_i h
   rw[ih]
   constructor
   ·rintro⟨h1,h2,h3⟩;exact⟨h1,by omega,h3⟩
   ·rintro⟨h1,h2,h3⟩
    refine key (fun e=>?_) fun e=>⟨h1,by omega,h3⟩
    subst e;exact absurd (by simpa using h3) h
theorem v8{taken:List Bool}{j:Nat}:(iL taken j).Pairwise (· < ·):=by
 induction j with
 |zero=>exact List.Pairwise.nil
 |succ j ih=>
  simp only[iL]
  split
  ·rw[List.pairwise_append]
   refine⟨ih,by simp,fun a ha b hb=>?_⟩
   have:=(rG.1 ha).2.1;simp only[List.mem_singleton] at hb;omega
  ·exact ih
theorem Outer.end{xs:List Int}{move:Int}{n:Nat}{taken:List Bool}(h:Outer xs move n taken):iL taken xs.length=(BL (places move xs) n).map (·.core):=by
 refine JZ _ _ v8 (List.pairwise_map.2 (xU mQ)) fun x=>?_
 rw[rG,List.mem_map];have hb:BL (places move xs) n=kL UD ((dZ move xs).take n):=by unfold BL;rw[if_neg (by have:=h.le;omega)];rfl
 rw[hb]
 constructor
 ·rintro⟨h1,h2,h3⟩
  obtain⟨p,hp,e⟩:=(h.iff x.toNat).1 h3;exact⟨p,(i3 _ _).mem_iff.2 hp,by omega⟩
 ·rintro⟨p,hp,rfl⟩
  have hp:=(i3 _ _).mem_iff.1 hp;have hm:=fQ.1 (List.mem_of_mem_take hp);have hlt:=(bM.1 hm.2.1).1;exact⟨hm.1,by omega,(h.iff _).2 ⟨p,hp,by omega⟩⟩
end Go.Proofs.YtnjphclbpgajpaaGreatDoor.Ma
namespace Go.Proofs.YtnjphclbpgajpaaGreatDoor.Vc
open Go.RowKit Ma
theorem bA:maxLen=9223372036854775807:=by decide
theorem NF(nl:Bool)(l:List Ld)(hnl:nl=true->l=[])(hl:l.length<=1000):aB Tryz.prog 137 [sL nl l] (.ow 3 nl (l.map eL)):=by
 have hm:=bA
 cases nl with
 |true=>
  have:=hnl rfl;subst this;refine Fn.run LT rfl ?_;generalize Tryz.prog=P at *
  (repeat'((conv=>whnf);first|exact trivial|(with_reducible first|refine zX ?_|refine zP ?_|refine zL ?_)|refine⟨rfl,?_⟩|refine⟨_,rfl,?_⟩|refine⟨fun _=>?_,fun _=>?_⟩|refine zn ?_|refine zb rfl ?_|refine zX ?_|refine zo rfl ?_|refine zs ?_|intro _));all_goals(try(conv=>whnf))
  all_goals rfl
 |false=>
  refine Fn.run LT rfl ?_;generalize Tryz.prog=P at *
  (repeat'((conv=>whnf);first|exact trivial|(with_reducible first|refine zX ?_|refine zP ?_|refine zL ?_)|refine⟨rfl,?_⟩|refine⟨_,rfl,?_⟩|refine⟨fun _=>?_,fun _=>?_⟩|refine zn ?_|refine zb rfl ?_|refine zX ?_|refine zo rfl ?_|refine zs ?_|intro _));all_goals(try(conv=>whnf))
  all_goals rfl
theorem a1a(nl:Bool)(l:List Ld)(x:Ld):PV.sl 3 nl (l.map eL++[eL x])=sL nl (l++[x]):=by simp[sL]
theorem I1(nl:Bool)(l:List Ld)(hnl:nl=true->l=[])(hl:l.length<=1000)(x:Ld):aB Tryz.prog 170 [sL nl l,eL x] (.p (.bool (dO (l++[x])))):=by
 have hm:=bA;have hc:=NF nl l hnl hl;have hf:=CT false (l++[x]);rw[<-a1a] at hf
 cases nl with
 |true=>
  refine Fn.run LJ rfl ?_;generalize Tryz.prog=P at *
  (repeat'((conv=>whnf);first|exact trivial|(with_reducible first|refine zX ?_|refine zP ?_|refine zL ?_)|refine⟨rfl,?_⟩|refine⟨_,rfl,?_⟩|refine⟨fun _=>?_,fun _=>?_⟩|refine zn ?_|refine zb rfl ?_|refine zX ?_|refine zo rfl ?_|refine zs ?_|intro _));all_goals(try(conv=>whnf))
  all_goals rfl
 |false=>
  refine Fn.run LJ rfl ?_;generalize Tryz.prog=P at *
  (repeat'((conv=>whnf);first|exact trivial|(with_reducible first|refine zX ?_|refine zP ?_|refine zL ?_)|refine⟨rfl,?_⟩|refine⟨_,rfl,?_⟩|refine⟨fun _=>?_,fun _=>?_⟩|refine zn ?_|refine zb rfl ?_|refine zX ?_|refine zo rfl ?_|refine zs ?_|intro _));all_goals(try(conv=>whnf))
  all_goals rfl
abbrev LL:=List (Bool×List Ld)
def eC(p:Bool×List Ld):PV:=sL p.1 p.2
def KW(nl:Bool)(ls:LL):PV:=.sl 1 nl (ls.map eC)
structure LLok (ls:LL):Prop where
 nils:∀p,p∈ls->p.1=true->p.2=[]
 len:∀p,p∈ls->p.2.length<=1000
 few:ls.length<=1000
structure Sec where
 res:Int
 at_:Int
 len:Int
deriving DecidableEq
structure Tk where
 C:Int
 D:Int
 T:Int
 nl:Bool
 secs:List Sec
def eS(x:Sec):PV:=.agg [.int .i64 x.res,.int .i64 x.at_,.int .i64 x.len]
def eT(t:Tk):PV:=.agg [.int .i64 t.C,.int .i64 t.D,.int .i64 t.T,.sl 3 t.nl (t.secs.map eS)]
def eP(p:Pc):PV:=.agg [.int .i64 p.core,.int .i64 p.off,.int .i64 p.len,.int .i64 p.c]
def AA(kind:Int)(nl:Bool)(ps:List Pc):PV:=.agg [.int .i64 kind,.sl 4 nl (ps.map eP)]
theorem O0(nl:Bool)(l:List Ld)(d t:Int):aB Tryz.prog 169 [sL nl l,.int .i64 d,.int .i64 t] (.p (.bool (vJ l d t))):=by
 have hf:=CT nl l;refine Fn.run RY rfl ?_;generalize Tryz.prog=P at *
 (repeat'((conv=>whnf);first|exact trivial|(with_reducible first|refine zX ?_|refine zP ?_|refine zL ?_)|refine⟨rfl,?_⟩|refine⟨_,rfl,?_⟩|refine⟨fun _=>?_,fun _=>?_⟩|refine zn ?_|refine zb rfl ?_|refine zX ?_|refine zo rfl ?_|refine zs ?_|intro _));all_goals(try(conv=>whnf))
 all_goals (refine aO (Bool.eq_iff_iff.2 ?_);simp only[vJ,List.length_map,aY,Bool.or_eq_true,Bool.and_eq_false_iff,Bool.or_eq_false_iff,decide_eq_true_eq,decide_eq_false_iff_not,Bool.not_eq_true',Bool.not_eq_false',Bool.false_eq_true,Bool.true_eq_false,Bool.not_true,Bool.not_false,ge_iff_le,gt_iff_lt] at *;first|done|omega|(simp only[false_iff];omega)|(simp only[true_iff];omega)|grind)
theorem WG(nl:Bool)(l:List Ld)(hnl:nl=true->l=[])(hll:l.length<=1000)(d t m:Int)(hm0 : -1000000<=m):aB Tryz.prog 130 [sL nl l,.int .i64 d,.int .i64 t,.int .i64 m] (.p (.int .i64 (FV l d t m))):=by
 have hmay:=O0 nl l d t;unfold FV
 cases hM:vJ l d t with
 |false=>
  rw[hM] at hmay;refine Fn.run U8 rfl ?_;generalize Tryz.prog=P at *
  (repeat'((conv=>whnf);first|exact trivial|(with_reducible first|refine zX ?_|refine zP ?_|refine zL ?_)|refine⟨rfl,?_⟩|refine⟨_,rfl,?_⟩|refine⟨fun _=>?_,fun _=>?_⟩|refine zn ?_|refine zb rfl ?_|refine zX ?_|refine zo rfl ?_|refine zs ?_|intro _));all_goals(try(conv=>whnf))
  all_goals exact dA (by simp)
 |true=>
  rw[hM] at hmay;have hw:=fun c=>I1 nl l hnl hll ⟨c,d,t⟩
  simp only[eL] at hw
  have hd:1<=d/\d<=200:=by
   simp only[vJ,aY,decide_eq_true_eq] at hM;omega
  obtain⟨s1,s2,s3,s4⟩:=vK l d t (min m d).toNat;rw[if_pos rfl];generalize hV:dD l d t (min m d).toNat=V at *;have hmn:(if d<m then d else m)=min m d:=by split<;>omega
  refine Fn.run U8 rfl ?_;generalize Tryz.prog=P at *
  (repeat'((conv=>whnf);first|exact trivial|(with_reducible first|refine zX ?_|refine zP ?_|refine zL ?_)|refine⟨rfl,?_⟩|refine⟨_,rfl,?_⟩|refine⟨fun _=>?_,fun _=>?_⟩|refine zn ?_|refine zb rfl ?_|refine zX ?_|refine zo rfl ?_|refine zs ?_|intro _));all_goals(try(conv=>whnf))
  refine aX (fun n s=>∃lo hi:Int,n=(hi-lo).toNat/\0<=lo/\hi<=min m d/\(lo=0\/iP l lo d t=true)/\lo<=V/\(V<=hi\/(V=0/\lo=0)) /\
   s=⟨gM 40 [(0,.p (sL nl l)),(1,.p (.int .i64 d)),(2,.p (.int .i64 t)),(9,.p (.int .i64 lo)),(10,.p (.int .i64 hi))],[]⟩) (min m d).toNat ?_ ?_
  ·conv=>whnf
   refine⟨0,min m d,by omega,Int.le_refl _,Int.le_refl _,.inl rfl,s1,by omega,?_⟩
   rw[<-hmn];rfl
  ·rintro n st b N ⟨lo,hi,hn,h0,h1,h2,h3,h4,e⟩ hN
   cases e
   by_cases hlt:lo<hi
   ·have hb:decide (lo<hi)=true:=decide_eq_true hlt
    have e1:IntKind.wrap .i64 (hi-lo)=hi-lo:=aJ (by omega) (by omega)
    have e2:IntKind.wrap .i64 (hi-lo+1)=hi-lo+1:=aJ (by omega) (by omega)
    have hq:1<=(hi-lo+1)/2/\(hi-lo+1)/2<=hi-lo:=by omega
    have e3:IntKind.wrap .i64 ((hi-lo+1).tdiv 2)=(hi-lo+1)/2:=by
     rw[Int.tdiv_eq_ediv_of_nonneg (by omega)];exact aJ (by omega) (by omega)
    have e4:IntKind.wrap .i64 (lo+(hi-lo+1)/2)=lo+(hi-lo+1)/2:=aJ (by omega) (by omega)
    have hc:=hw (IntKind.wrap .i64 (lo+IntKind.wrap .i64 ((IntKind.wrap .i64 (IntKind.wrap .i64 (hi-lo)+1)).tdiv 2)));have hg:IntKind.wrap .i64 (lo+IntKind.wrap .i64 ((IntKind.wrap .i64 (IntKind.wrap .i64 (hi-lo)+1)).tdiv 2))=lo+(hi-lo+1)/2:=by rw[e1,e2,e3,e4]
    (repeat'((conv=>whnf);first|exact trivial|(with_reducible first|refine zX ?_|refine zP ?_|refine zL ?_)|refine⟨rfl,?_⟩|refine⟨_,rfl,?_⟩|refine⟨fun _=>?_,fun _=>?_⟩|refine zn ?_|refine zb rfl ?_|refine zX ?_|refine zo rfl ?_|refine zs ?_|intro _));all_goals(try(conv=>whnf))
    ·rename_i e
     rw[hg] at e ⊢
     have hcV:lo+(hi-lo+1)/2<=V:=by
      refine Int.not_lt.1 fun hlt2=>?_
      have:=s4 _ hlt2 (by omega)
      unfold iP at this;rw[e] at this;cases this
     exact hN _ _ (by omega) ⟨lo+(hi-lo+1)/2,hi,rfl,by omega,h1,.inr e,hcV,by omega,rfl⟩
    ·rename_i e
     rw[hg] at e ⊢;rw[aJ (n:=lo+(hi-lo+1)/2-1) (by omega) (by omega)]
     have hcV:V<lo+(hi-lo+1)/2:=by
      refine Int.not_le.1 fun hle=>?_
      have:=GQ (s3 (by omega)) (c':=lo+(hi-lo+1)/2) (by omega) hle
      unfold iP at this;rw[e] at this;cases this
     exact hN _ _ (by omega) ⟨lo,lo+(hi-lo+1)/2-1,rfl,h0,by omega,h2,h3,by omega,rfl⟩
   ·have hb:decide (lo<hi)=false:=decide_eq_false hlt
    (repeat'((conv=>whnf);first|exact trivial|(with_reducible first|refine zX ?_|refine zP ?_|refine zL ?_)|refine⟨rfl,?_⟩|refine⟨_,rfl,?_⟩|refine⟨fun _=>?_,fun _=>?_⟩|refine zn ?_|refine zb rfl ?_|refine zX ?_|refine zo rfl ?_|refine zs ?_|intro _));all_goals(try(conv=>whnf))
    exact dA (by omega)
theorem TF(c d t:Int):eL ⟨c,d,t⟩=.agg [.int .i64 c,.int .i64 d,.int .i64 t]:=rfl
theorem N4(nl:Bool)(l:List Ld)(hnl:nl=true->l=[])(hll:l.length<=1000)(t m:Int):aB Tryz.prog 135 [sL nl l,.int .i64 t,.int .i64 m] (.p (.int .i64 (z8 l t m))):=by
 have hmay:=O0 nl l t t;unfold z8
 cases hM:vJ l t t with
 |false=>
  rw[hM] at hmay;refine Fn.run X5 rfl ?_;generalize Tryz.prog=P at *
  (repeat'((conv=>whnf);first|exact trivial|(with_reducible first|refine zX ?_|refine zP ?_|refine zL ?_)|refine⟨rfl,?_⟩|refine⟨_,rfl,?_⟩|refine⟨fun _=>?_,fun _=>?_⟩|refine zn ?_|refine zb rfl ?_|refine zX ?_|refine zo rfl ?_|refine zs ?_|intro _));all_goals(try(conv=>whnf))
  all_goals exact dA (by simp)
 |true=>
  have hM':=hM;simp only[vJ,aY,decide_eq_true_eq] at hM';obtain⟨p1,p2,p3,p4,p5⟩:=hM';rw[hM] at hmay;have hw:=fun c d=>I1 nl l hnl hll ⟨c,d,t⟩
  simp only[TF] at hw;rw[if_pos rfl];have hmn:(if t<m then t else m)=min m t:=by split<;>omega
  refine Fn.run X5 rfl ?_;generalize Tryz.prog=P at *
  (repeat'((conv=>whnf);first|exact trivial|(with_reducible first|refine zX ?_|refine zP ?_|refine zL ?_)|refine⟨rfl,?_⟩|refine⟨_,rfl,?_⟩|refine⟨fun _=>?_,fun _=>?_⟩|refine zn ?_|refine zb rfl ?_|refine zX ?_|refine zo rfl ?_|refine zs ?_|intro _));all_goals(try(conv=>whnf))
  refine aX (fun n s=>∃c:Int,n=(min m t-c).toNat/\0<=c/\c<=200/\jJ l t n c=jJ l t (min m t).toNat 0 /\
   s=⟨gM 31 [(0,.p (sL nl l)),(1,.p (.int .i64 t)),(2,.p (.int .i64 m)),(7,.p (.int .i64 c))],[]⟩) (min m t).toNat ?_ ?_
  ·conv=>whnf
   exact⟨0,by omega,Int.le_refl _,by omega,rfl,rfl⟩
  ·rintro n st b N ⟨c,hn,h0,h1,h2,e⟩ hN
   cases e
   have hcw:IntKind.wrap .i64 (c+1)=c+1:=aJ (by omega) (by omega)
   by_cases hlt:c<(if t<m then t else m)
   ·have hb:decide (c<(if t<m then t else m))=true:=decide_eq_true hlt
    rw[hmn] at hlt;have hc:=hw (IntKind.wrap .i64 (c+1)) (IntKind.wrap .i64 (c+1));have hn1:n=(min m t-(c+1)).toNat+1:=by omega
    rw[hn1] at h2;simp only[jJ] at h2
    (repeat'((conv=>whnf);first|exact trivial|(with_reducible first|refine zX ?_|refine zP ?_|refine zL ?_)|refine⟨rfl,?_⟩|refine⟨_,rfl,?_⟩|refine⟨fun _=>?_,fun _=>?_⟩|refine zn ?_|refine zb rfl ?_|refine zX ?_|refine zo rfl ?_|refine zs ?_|intro _));all_goals(try(conv=>whnf))
    ·rename_i e
     rw[hcw] at e ⊢;unfold iP at h2;rw[if_pos e] at h2;exact hN _ _ (by omega) ⟨c+1,rfl,by omega,by omega,h2,rfl⟩
    ·rename_i e
     rw[hcw] at e;unfold iP at h2;rw[if_neg (by rw[e];decide)] at h2
     exact dA h2
   ·have hb:decide (c<(if t<m then t else m))=false:=decide_eq_false hlt
    rw[hmn] at hlt;have hn0:n=0:=by omega
    subst hn0
    (repeat'((conv=>whnf);first|exact trivial|(with_reducible first|refine zX ?_|refine zP ?_|refine zL ?_)|refine⟨rfl,?_⟩|refine⟨_,rfl,?_⟩|refine⟨fun _=>?_,fun _=>?_⟩|refine zn ?_|refine zb rfl ?_|refine zX ?_|refine zo rfl ?_|refine zs ?_|intro _));all_goals(try(conv=>whnf))
    exact dA h2
open Go.RowKit Ma
structure Cf where
 cores:Int
 syncs:Int
 lag:Int
 move:Int
 nl:Bool
 res:List Int
def eI(x:Int):PV:=.int .i64 x
def sI(nl:Bool)(l:List Int):PV:=.sl 1 nl (l.map eI)
def jB(c:Cf):PV:=.agg [.int .i64 c.cores,.int .i64 c.syncs,.int .i64 c.lag,.int .i64 c.move,sI c.nl c.res]
def H9(c:Cf)(live:Bool):Box:=⟨live,5,[[.p (.int .i64 c.cores),.p (.int .i64 c.syncs),.p (.int .i64 c.lag),.p (.int .i64 c.move),.p (sI c.nl c.res)]],false⟩
def SI(t:Tk):Box:=⟨true,4,[[.p (.int .i64 t.C),.p (.int .i64 t.D),.p (.int .i64 t.T),.p (.sl 3 t.nl (t.secs.map eS))]],false⟩
def AN(syncs a:Int):Bool:=decide (a<0)||decide (a≥syncs)
def pE(c:Cf):Prop:=(1<=c.cores/\c.cores<=6)/\(0<=c.syncs/\c.syncs<=3)/\(0<=c.lag/\c.lag<=5)/\(0<=c.move/\c.move<=5)
instance (c:Cf):Decidable (pE c):=inferInstanceAs (Decidable (_/\_))
def Cf.ok(c:Cf):Bool:=decide (pE c)&&(decide (c.res.length<=6) && !c.res.any (AN c.syncs))
theorem AV(c:Cf)(hl:c.res.length<=1000):aB Tryz.prog 46 [jB c] (.p (.bool c.ok)):=by
 have hm:=bA;have h1:=yE c.cores 1 6;have h2:=yE c.syncs 0 3;have h3:=yE c.lag 0 5;have h4:=yE c.move 0 5;refine Fn.run k46 rfl ?_;generalize Tryz.prog=P at *
 (repeat'((conv=>whnf);first|exact trivial|(with_reducible first|refine zX ?_|refine zP ?_|refine zL ?_)|refine⟨rfl,?_⟩|refine⟨_,rfl,?_⟩|refine⟨fun _=>?_,fun _=>?_⟩|refine zn ?_|refine zb rfl ?_|refine zX ?_|refine zo rfl ?_|refine zs ?_|intro _));all_goals(try(conv=>whnf))
 refine aX (fun n s=>∃i:Nat,n+i=c.res.length/\(c.res.drop i).any (AN c.syncs)=c.res.any (AN c.syncs)/\s=⟨gM 51 [(1,.addr 0 5 0 0),(3,.p (.int .i64 i))],[some (H9 c true)]⟩) c.res.length ?_ ?_
 ·conv=>whnf
  exact⟨0,rfl,rfl,rfl⟩
 ·rintro n t b N ⟨i,hi,hI,e⟩ hN
  cases e
  by_cases hlt:i<c.res.length
  ·have hrow:(c.res.map eI)[i]?=some (.int .i64 c.res[i]):=by simp[hlt,eI]
   have hb:=l8 (n:=(c.res.map eI).length) (by simpa using hlt)
   rw[List.drop_eq_getElem_cons hlt] at hI;simp only[List.any_cons] at hI
   by_cases c1:c.res[i]<0
   ·have d1:decide (c.res[i]<0)=true:=decide_eq_true c1
    have hok:c.ok=false:=by
     unfold Cf.ok;rw[<-hI];simp[AN,c1]
    (repeat'((conv=>whnf);first|exact trivial|(with_reducible first|refine zX ?_|refine zP ?_|refine zL ?_)|refine⟨rfl,?_⟩|refine⟨_,rfl,?_⟩|refine⟨fun _=>?_,fun _=>?_⟩|refine zn ?_|refine zb rfl ?_|refine zX ?_|refine zo rfl ?_|refine zs ?_|intro _));all_goals(try(conv=>whnf))
    exact aO hok.symm
   ·have d1:decide (c.res[i]<0)=false:=decide_eq_false c1
    by_cases c2:c.res[i]≥c.syncs
    ·have d2:decide (c.res[i]≥c.syncs)=true:=decide_eq_true c2
     have hok:c.ok=false:=by
      unfold Cf.ok;rw[<-hI];simp[AN,d2]
     (repeat'((conv=>whnf);first|exact trivial|(with_reducible first|refine zX ?_|refine zP ?_|refine zL ?_)|refine⟨rfl,?_⟩|refine⟨_,rfl,?_⟩|refine⟨fun _=>?_,fun _=>?_⟩|refine zn ?_|refine zb rfl ?_|refine zX ?_|refine zo rfl ?_|refine zs ?_|intro _));all_goals(try(conv=>whnf))
     exact aO hok.symm
    ·have d2:decide (c.res[i]≥c.syncs)=false:=decide_eq_false c2
     have hbad:AN c.syncs c.res[i]=false:=by unfold AN;rw[d1,d2];rfl
     rw[hbad,Bool.false_or] at hI
     (repeat'((conv=>whnf);first|exact trivial|(with_reducible first|refine zX ?_|refine zP ?_|refine zL ?_)|refine⟨rfl,?_⟩|refine⟨_,rfl,?_⟩|refine⟨fun _=>?_,fun _=>?_⟩|refine zn ?_|refine zb rfl ?_|refine zX ?_|refine zo rfl ?_|refine zs ?_|intro _));all_goals(try(conv=>whnf))
     rw[fY (n:=c.res.length) hlt (by omega)]
     exact hN (n-1) _ (by omega) ⟨i+1,by omega,hI,rfl⟩
  ·have hb:=nA (n:=(c.res.map eI).length) (by simpa using hlt)
   rw[List.drop_of_length_le (by omega)] at hI
   have hI':c.res.any (AN c.syncs)=false:=by rw[<-hI];rfl
   clear hN hI
   by_cases hh:pE c
   ·have hh':=hh
    unfold pE at hh';obtain⟨⟨a1,a2⟩,⟨a3,a4⟩,⟨a5,a6⟩,a7,a8⟩:=hh';have b1:(decide (1<=c.cores)&&decide (c.cores<=6))=true:=by simp[a1,a2]
    have b2:(decide (0<=c.syncs)&&decide (c.syncs<=3))=true:=by simp[a3,a4]
    have b3:(decide (0<=c.lag)&&decide (c.lag<=5))=true:=by simp[a5,a6]
    have b4:(decide (0<=c.move)&&decide (c.move<=5))=true:=by simp[a7,a8]
    rw[b1] at h1;rw[b2] at h2;rw[b3] at h3;rw[b4] at h4
    have hok:c.ok=decide (((c.res.map eI).length:Int)<=6):=by
     unfold Cf.ok;rw[hI',decide_eq_true hh,Bool.true_and,Bool.not_false,Bool.and_true,Bool.eq_iff_iff];simp;omega
    rw[hok]
    (repeat'((conv=>whnf);first|exact trivial|(with_reducible first|refine zX ?_|refine zP ?_|refine zL ?_)|refine⟨rfl,?_⟩|refine⟨_,rfl,?_⟩|refine⟨fun _=>?_,fun _=>?_⟩|refine zn ?_|refine zb rfl ?_|refine zX ?_|refine zo rfl ?_|refine zs ?_|intro _));all_goals(try(conv=>whnf))
    all_goals exact aO rfl
   ·have hok:c.ok=false:=by unfold Cf.ok;rw[decide_eq_false hh,Bool.false_and]
    rw[hok]
    have hh':((decide (1<=c.cores)&&decide (c.cores<=6))&&((decide (0<=c.syncs)&&decide (c.syncs<=3))&&((decide (0<=c.lag)&&decide (c.lag<=5))&&(decide (0<=c.move)&&decide (c.move<=5)))))=false:=by
     refine Bool.eq_false_iff.2 fun e=>hh ?_
     simpa [pE] using e
    generalize (decide (1<=c.cores)&&decide (c.cores<=6))=x1 at *;generalize (decide (0<=c.syncs)&&decide (c.syncs<=3))=x2 at *;generalize (decide (0<=c.lag)&&decide (c.lag<=5))=x3 at *;generalize (decide (0<=c.move)&&decide (c.move<=5))=x4 at *
    (repeat'((conv=>whnf);first|exact trivial|(with_reducible first|refine zX ?_|refine zP ?_|refine zL ?_)|refine⟨rfl,?_⟩|refine⟨_,rfl,?_⟩|refine⟨fun _=>?_,fun _=>?_⟩|refine zn ?_|refine zb rfl ?_|refine zX ?_|refine zo rfl ?_|refine zs ?_|intro _));all_goals(try(conv=>whnf))
    all_goals first
     |exact aO rfl
     |exact aO (by assumption)
     | (exfalso
        have e1:x1=true:=by assumption
        have e2:x2=true:=by assumption
        have e3:x3=true:=by assumption
        have e4:x4=true:=by assumption
        rw[e1,e2,e3,e4] at hh';exact absurd hh' (by decide))
def dC(nres C:Int):Int->List Sec->Bool
 |_,[]=>true
 |last,s ::ss=>decide (0<=s.res)&&(decide (s.res<nres)&&(decide (1<=s.len)&&(decide (s.len<=200)&&(decide (last<s.at_)&&(decide (s.at_<C)&&dC nres C s.at_ ss)))))
def r8(t:Tk):Prop:=1<=t.C/\t.C<=t.D/\t.D<=t.T/\t.T<=200/\t.secs.length<=2
instance (t:Tk):Decidable (r8 t):=inferInstanceAs (Decidable (_/\_))
def Tk.ok(nres:Int)(t:Tk):Bool:=decide (r8 t)&&dC nres t.C 0 t.secs
theorem FD{t:Tk}(hh:¬r8 t):(decide (t.C<1)||(decide (t.C>t.D)||(decide (t.D>t.T)||(decide (t.T>200)||decide (((t.secs.map eS).length:Int)>2)))))=true:=by
 unfold r8 at hh;simp only[Bool.or_eq_true,decide_eq_true_eq,List.length_map];omega
open Go.RowKit Ma
section
variable {P:Program}
theorem d9{t:TypeId}{k:IntKind}(hu:P.underlying t=some (.int k)){n:Nat}{cs:List PV}(h:RdT P n t cs):∃m,cs=[.int k m]:=by
 cases n with
 |zero=>exact h.elim
 |succ n=>unfold RdT at h;simpa only [hu] using h
theorem qK{t:TypeId}{fs:Array Field}(hu:P.underlying t=some (.struct fs)){n:Nat}{cs:List PV}(h:RdT P n t cs):∃n',RdT.RdF (RdT P n') fs.toList cs:=by
 cases n with
 |zero=>exact h.elim
 |succ n=>unfold RdT at h;exact⟨n,by simpa only [hu] using h⟩
theorem NI{α:Type}{f : α->PV}{rows:List PV}(h:∀row,row∈rows->∃x,row=f x):∃l:List α,rows=l.map f:=by
 induction rows with
 |nil=>exact⟨[],rfl⟩
 |cons r rs ih=>
  obtain⟨x,hx⟩:=h r (by simp)
  obtain⟨l,hl⟩:=ih fun row hr=>h row (by simp[hr])
  exact⟨x ::l,by rw[hx,hl];rfl⟩
theorem oU{t e:TypeId}(hu:P.underlying t=some (.slice e)){n:Nat}{cs:List PV}(h:RdT P n t cs){α:Type}{f : α->PV}(hf:∀n' rcs,RdT P n' e rcs->∃x,eX (x5 P e) rcs=f x) :
  ∃nl,∃l:List α,cs=[.sl (P.cellsOf e) nl (l.map f)]/\(nl=true->l=[]):=by
 cases n with
 |zero=>exact h.elim
 |succ n=>
  unfold RdT at h;simp only[hu] at h;obtain⟨nl,rows,h1,h2,h3⟩:=h
  obtain⟨l,rfl⟩:=NI (f:=f) (rows:=rows) fun row hr=>by
   obtain⟨rcs,hr1,hr2⟩:=h3 row hr;obtain⟨x,hx⟩:=hf n rcs hr1;exact⟨x,hr2.trans hx⟩
  exact⟨nl,l,h1,fun hn=>by simpa using h2 hn⟩
end
theorem u2:Tryz.prog.underlying 2=some (.int .i64):=by kernel_rfl
theorem u3:Tryz.prog.underlying 3=some (.int .i64):=by kernel_rfl
theorem u4:Tryz.prog.underlying 4=some .bool:=by kernel_rfl
theorem u22:Tryz.prog.underlying 22=some (.slice 3):=by kernel_rfl
theorem u26:Tryz.prog.underlying 26=some (.slice 64):=by kernel_rfl
theorem u24:Tryz.prog.underlying 24=some (.struct #[{ name := "Cores", type:=3,offset:=0,embedded:=false,tag := "", pkgPath := "", byteOffset:=0 },{ name := "Syncs", type:=3,offset:=1,embedded:=false,tag := "", pkgPath := "", byteOffset:=8 },{ name := "Lag", type:=2,offset:=2,embedded:=false,tag := "", pkgPath := "", byteOffset:=16 },{ name := "Move", type:=2,offset:=3,embedded:=false,tag := "", pkgPath := "", byteOffset:=24 },{ name := "Res", type:=22,offset:=4,embedded:=false,tag := "", pkgPath := "", byteOffset:=32 }]):=by kernel_rfl
theorem u28:Tryz.prog.underlying 28=some (.struct #[{ name := "C", type:=2,offset:=0,embedded:=false,tag := "", pkgPath := "", byteOffset:=0 },{ name := "D", type:=2,offset:=1,embedded:=false,tag := "", pkgPath := "", byteOffset:=8 },{ name := "T", type:=2,offset:=2,embedded:=false,tag := "", pkgPath := "", byteOffset:=16 },{ name := "Secs", type:=26,offset:=3,embedded:=false,tag := "", pkgPath := "", byteOffset:=24 }]):=by kernel_rfl
theorem u86:Tryz.prog.underlying 64=some (.struct #[{ name := "Res", type:=3,offset:=0,embedded:=false,tag := "", pkgPath := "", byteOffset:=0 },{ name := "At", type:=2,offset:=1,embedded:=false,tag := "", pkgPath := "", byteOffset:=8 },{ name := "Len", type:=2,offset:=2,embedded:=false,tag := "", pkgPath := "", byteOffset:=16 }]):=by kernel_rfl
theorem s3:x5 Tryz.prog 3=false:=by kernel_rfl
theorem s86:x5 Tryz.prog 64=true:=by kernel_rfl
theorem c3:Tryz.prog.cellsOf 3=1:=by kernel_rfl
theorem c86:Tryz.prog.cellsOf 64=3:=by kernel_rfl
theorem TQ{n:Nat}{cs:List PV}(h:RdT Tryz.prog n 64 cs):∃x:Sec,eX true cs=eS x:=by
 obtain⟨m,h⟩:=qK u86 h;obtain⟨a,r,rfl,h1,b,r2,rfl,h2,c,r3,rfl,h3,rfl⟩:=h;obtain⟨x,rfl⟩:=d9 u3 h1;obtain⟨y,rfl⟩:=d9 u2 h2;obtain⟨z,rfl⟩:=d9 u2 h3;exact⟨⟨x,y,z⟩,rfl⟩
theorem ZX{n:Nat}{cs:List PV}(h:RdT Tryz.prog n 24 cs):∃c:Cf,eX true cs=jB c/\(c.nl=true->c.res=[]):=by
 obtain⟨m,h⟩:=qK u24 h;obtain⟨a,r,rfl,h1,b,r2,rfl,h2,c,r3,rfl,h3,d,r4,rfl,h4,e,r5,rfl,h5,rfl⟩:=h;obtain⟨x,rfl⟩:=d9 u3 h1;obtain⟨y,rfl⟩:=d9 u3 h2;obtain⟨z,rfl⟩:=d9 u2 h3;obtain⟨v,rfl⟩:=d9 u2 h4
 obtain⟨nl,l,rfl,hn⟩:=oU u22 h5 (f:=eI) fun n' rcs hr=>by
  obtain⟨q,rfl⟩:=d9 u3 hr;rw[s3];exact⟨q,rfl⟩
 exact⟨⟨x,y,z,v,nl,l⟩,by rw[c3];rfl,hn⟩
theorem YV{n:Nat}{cs:List PV}(h:RdT Tryz.prog n 28 cs):∃t:Tk,eX true cs=eT t/\(t.nl=true->t.secs=[]):=by
 obtain⟨m,h⟩:=qK u28 h;obtain⟨a,r,rfl,h1,b,r2,rfl,h2,c,r3,rfl,h3,d,r4,rfl,h4,rfl⟩:=h;obtain⟨x,rfl⟩:=d9 u2 h1;obtain⟨y,rfl⟩:=d9 u2 h2;obtain⟨z,rfl⟩:=d9 u2 h3;obtain⟨nl,l,rfl,hn⟩:=oU u26 h4 (f:=eS) fun n' rcs hr=>by rw[s86];exact TQ hr
 exact⟨⟨x,y,z,nl,l⟩,by rw[c86];rfl,hn⟩
open Go.RowKit Go.ChangeShapes Go.WideShapes Go.ChangeAt Ma
def eF:List (String×DataW Unit):=[("math/bits.deBruijn32tab", Rows.laid_math_bits_deBruijn32tab),("math/bits.deBruijn64tab", Rows.laid_math_bits_deBruijn64tab),("internal/strconv.uint64pow10", Rows.laid_internal_strconv_uint64pow10),
 ("unicode/utf8.acceptRanges", Rows.laid_unicode_utf8_acceptRanges),("strconv.ErrRange", Rows.laid_strconv_ErrRange),("strconv.ErrSyntax", Rows.laid_strconv_ErrSyntax),("unicode/utf8.first", Rows.laid_unicode_utf8_first)]
theorem DH:∀w:World,laidMetH Tryz.prog eF w=laidMet Tryz.prog eF w:=fun w=>MakeChecks.laidMetH_plain _ _ _ (by kernel_rfl)
theorem oX(os:Os)(args:Array Value):laidMetH Tryz.prog eF ((World.laidAll Tryz.prog os eF).forCall (fun _ _=>0) ⟨#[],args,[]⟩).memory:=by
 rw[DH];exact laidMet_laidAll _ (by kernel_rfl) (by kernel_rfl)
theorem yR{a b:Bool}(h:a=true)(k:b=true):(a&&b)=true:=by rw[h,k];rfl
abbrev mainSum:String := "aada39efcd2bae9a899bb5c456762e7237047e2d7d47480e4901f2fc647950d7"
theorem sD:Tryz.prog.mainIs=some (true,mainSum.toList):=by kernel_rfl
theorem yN:true=Tryz.prog.looks []:=by kernel_rfl
theorem KX:Tryz.prog.wantsStandIn 24=false:=by kernel_rfl
theorem MZ:Tryz.prog.wantsStandIn 28=false:=by kernel_rfl
theorem yJ:Tryz.prog.wantsStandIn 2=false:=by kernel_rfl
theorem K8:Tryz.prog.wantsStandIn 3=false:=by kernel_rfl
theorem MQ:ownKnob Tryz.prog.godebug=none:=by kernel_rfl
theorem mO:laidOutB Tryz.prog=true:=by kernel_rfl
theorem TK:DZ Tryz.prog 12 24=true:=by kernel_rfl
theorem W6:DZ Tryz.prog 12 28=true:=by kernel_rfl
theorem NV:DZ Tryz.prog 12 2=true:=by kernel_rfl
theorem YO:DZ Tryz.prog 12 3=true:=by kernel_rfl
theorem s24:x5 Tryz.prog 24=true:=by kernel_rfl
theorem s28:x5 Tryz.prog 28=true:=by kernel_rfl
theorem s2:x5 Tryz.prog 2=false:=by kernel_rfl
theorem s4:x5 Tryz.prog 4=false:=by kernel_rfl
section
variable {H:Type} {enc:TypeId×Value->H} {P:Program} {w:World} {base:Nat} {spare:Nat->Bool} {held:Bool}
theorem mS{t:TypeId}{ts:List TypeId}{vs:List Value}{ds:List (DataW H)}{ps:List MemPlace}(h:DataW.TrodAll enc P w base spare held (t ::ts) vs ds ps) :
  ∃v vs' d ds' p q,vs=v ::vs'/\ds=d ::ds'/\ps=p++q/\DataW.Trod enc P w base spare held t v d p/\DataW.TrodAll enc P w base spare held ts vs' ds' q:=by
 cases vs with
 |nil=>exact h.elim
 |cons v vs'=>cases ds with
  |nil=>exact h.elim
  |cons d ds'=>
   obtain⟨p,q,h1,h2,h3⟩:=h;exact⟨v,vs',d,ds',p,q,rfl,rfl,h3,h1,h2⟩
theorem FT{vs:List Value}{ds:List (DataW H)}{ps:List MemPlace}(h:DataW.TrodAll enc P w base spare held [] vs ds ps):vs=[]/\ds=[]/\ps=[]:=by
 cases vs with
 |nil=>cases ds with
  |nil=>exact⟨rfl,rfl,h⟩
  |cons d ds'=>exact h.elim
 |cons v vs'=>exact h.elim
end
theorem FB{H:Type}{enc:TypeId×Value->H}{w:World}{base:Nat}{sp:Nat->Bool}{hd:Bool}(b:Bool):DataW.Trod enc Tryz.prog w base sp hd 4 (.bool b) (.lit (.bool b)) []:=⟨1,by simp[DataW.trod,Value.cells,u4]⟩
theorem jX{P:Program}{f:FuncId}{args:List PV}{r:DV}(h:aB P f args r)(hf:B6 P f)(M0:Nat->Nat->Prop)(w:World)(cargs:Array Value)(hs:cargs.size=args.length)
  (ha:∀(j:Nat) x v,args[j]?=some x->cargs[j]?=some v->Flat M0 w x v) :
  Calls P f cargs w fun e w'=>∃v X,e=.returned v/\X.w=w'/\VRel X w.heap.size (.tmp 0) r v/\(∀b,b<w.heap.size->∀o,X.M b o↔M0 b o)/\Below w.heap.size w w':=by
 rcases h.2 M0 w cargs hs ha with ⟨_,hc⟩|⟨v,X,hr,_⟩
 ·exact hc
 ·exfalso
  obtain⟨fn,h1,h2,h3⟩:=hf;have h4:fn.body≠none:=fun hb=>by rw[hb] at h2;cases h2
  simp[callFunc,h1,h3,h4] at hr
open Go.RowKit
def F19:Fn:=⟨21,3,[.cell 6 9],
 (.sr [ii 3 (.box 0 2) [.t 0],
 ⟨some 6,none,.alloc 1 9 [Z0,Z0,Z0,Z0,Z0,Z0,Z0,Z0,Z0],[]⟩]
 (.seq
 (.gp (.reg [mv 8 1,
 mv 9 2,
 ⟨some 10,none,.build [.int .i64 0,.int .i64 0,.int .i64 0,.int .i64 0,.int .i64 0,.int .i64 0,.int .i64 0,.int .i64 0,.int .i64 0] [(0,1),(1,1),(2,1)],[cI 2,.t 8,.t 9]⟩,
 ⟨some 7,none,.alloc 2 9 [Z0,Z0,Z0,Z0,Z0,Z0,Z0,Z0,Z0],[]⟩,
 ⟨none,none,.store 9,[.t 7,.t 10]⟩]) (.lay 2 9))
 (.seq
 (.sr [ii 11 (.load 2 true false) [.t 3],
 ii 12 (.load 9 true false) [.t 7],
 ii 13 (.call 53) [.t 11,.t 12]]
 (.cond (.t 13)
 (.gp (.reg [fa 14 1 3,
 ld 15 14,
 ii 16 (.iad 4) [.t 15,cI 0],
 fa 17 3 16,
 ld 18 17,
 fa 19 5 7,
 ⟨none,none,.store 1,[.t 19,.t 18]⟩]) (.lay 2 9))
 .skip))
 (.seq
 (.gp (.reg [ii 20 (.load 9 true false) [.t 7],
 ⟨none,none,.store 9,[.t 6,.t 20]⟩]) (.lay 1 9))
 .ret))))⟩
theorem X6:aC Tryz.prog 19 F19=true:=by kernel_rfl
def F20:Fn:=⟨121,5,[.cell 10 9,.tmp 11],
 (.sr [ii 5 (.box 0 5) [.t 0],
 ii 6 (.box 1 4) [.t 1],
 ii 7 (.box 2 2) [.t 2],
 ii 8 (.box 3 9) [.t 3],
 ⟨some 10,none,.alloc 4 9 [Z0,Z0,Z0,Z0,Z0,Z0,Z0,Z0,Z0],[]⟩,
 mc 11 (.int .i64 0)]
 (.seq
 (.sr [fa 13 0 8,
 ld 14 13,
 b1 15 .neq 14 (.int .i64 2),
 mv 16 15,
 gf 17 16 (.load 2 true false) [.t 7],
 gf 18 16 (.load 9 true false) [.t 8],
 gf 19 16 (.call 53) [.t 17,.t 18],
 gf 20 16 (.un .not) [.t 19],
 ii 21 .pick [.t 16,.c (.p (.bool true)),.t 20]]
 (.cond (.t 21)
 (.seq
 (.gp (.reg [ii 22 (.load 9 true false) [.t 8],
 ⟨none,none,.store 9,[.t 10,.t 22]⟩,
 mc 11 (.int .i64 0)]) (.lay 4 9))
 .ret)
 .skip))
 (.seq
 (.gp (.reg [fa 23 5 8,
 ld 24 23,
 b1 25 .sub 24 (.int .i64 1),
 fa 26 5 8,
 ⟨none,none,.store 1,[.t 26,.t 25]⟩]) (.lay 3 9))
 (.sr [fa 27 6 8,
 ld 28 27,
 b1 29 .leq 28 (.int .i64 0),
 mt 12 29]
 (.seq
 (.sr [mv 30 12]
 (.cond (.t 30)
 (.gp (.reg [fa 31 3 8,
 ld 32 31,
 b1 33 .add 32 (.int .i64 1),
 fa 34 3 8,
 ⟨none,none,.store 1,[.t 34,.t 33]⟩]) (.lay 3 9))
 (.gp (.reg [fa 35 6 8,
 ld 36 35,
 b1 37 .sub 36 (.int .i64 1),
 fa 38 6 8,
 ⟨none,none,.store 1,[.t 38,.t 37]⟩]) (.lay 3 9))))
 (.seq
 (.block 0
 (.sr [mv 40 12,
 mv 41 40,
 gt 42 41 (.fad 3) [.t 8],
 gt 43 41 (.load 1 false false) [.t 42],
 gt 44 41 (.fad 2) [.t 8],
 gt 45 41 (.load 1 false false) [.t 44],
 gt 46 41 (.bin .eql) [.t 43,.t 45],
 ii 47 .pick [.t 41,.t 46,.c (.p (.bool false))],
 mt 39 47]
 (.cond (.t 39)
 (.seq
 (.gp (.reg [mv 48 4,
 b1 49 .add 48 (.int .i64 1),
 fa 50 0 8,
 ⟨none,none,.store 1,[.t 50,cI 4]⟩,
 fa 51 8 8,
 ⟨none,none,.store 1,[.t 51,.t 49]⟩]) (.lay 3 9))
 (.seq
 (.gp (.reg [ii 52 (.load 9 true false) [.t 8],
 ⟨none,none,.store 9,[.t 10,.t 52]⟩,
 mc 11 (.int .i64 2)]) (.lay 4 9))
 .ret))
 (.seq
 (.regd [mv 54 12,
 mv 55 54,
 gt 56 55 (.fad 7) [.t 8],
 gt 57 55 (.at 3 (.load 1 false false)) [.t 56],
 gt 58 55 (.bin .geq) [.t 57,cI 0],
 ii 59 .pick [.t 55,.t 58,.c (.p (.bool false))],
 mv 60 59,
 gt 61 60 (.fad 7) [.t 8],
 gt 62 60 (.at 3 (.load 1 false false)) [.t 61],
 gt 63 60 (.fad 3) [.t 6],
 gt 64 60 (.at 1 (.load 1 false false)) [.t 63],
 gt 65 60 .lenD [.t 64],
 gt 66 60 (.bin .lss) [.t 62,.t 65],
 ii 67 .pick [.t 60,.t 66,.c (.p (.bool false))],
 mv 68 67,
 gt 69 68 (.fad 3) [.t 6],
 gt 70 68 (.at 1 (.load 1 false false)) [.t 69],
 gt 71 68 (.fad 7) [.t 8],
 gt 72 68 (.at 3 (.load 1 false false)) [.t 71],
 gt 73 68 (.iad 3) [.t 70,.t 72],
 gt 74 68 (.fad 1) [.t 73],
 gt 75 68 (.loadp 1 false) [.t 74],
 gt 76 68 (.fad 3) [.t 8],
 gt 77 68 (.at 3 (.load 1 false false)) [.t 76],
 gt 78 68 (.bin .eql) [.t 75,.t 77],
 ii 79 .pick [.t 68,.t 78,.c (.p (.bool false))],
 mt 53 79])
 (.cond (.t 53)
 (.seq
 (.gp (.reg [fa 80 0 8,
 ⟨none,none,.store 1,[.t 80,cI 3]⟩]) (.lay 3 9))
 (.seq
 (.gp (.reg [fa 81 7 8,
 ld 82 81,
 b1 83 .add 82 (.int .i64 1),
 fa 84 7 8,
 ⟨none,none,.store 1,[.t 84,.t 83]⟩]) (.lay 3 9))
 (.seq
 (.gp (.reg [ii 85 (.load 9 true false) [.t 8],
 ⟨none,none,.store 9,[.t 10,.t 85]⟩,
 mc 11 (.int .i64 3)]) (.lay 4 9))
 .ret)))
 (.sr [fa 87 5 8,
 ld 88 87,
 b1 89 .neq 88 (.int .i64 0),
 mt 86 89]
 (.cond (.t 86)
 (.seq
 (.gp (.reg [ii 90 (.load 9 true false) [.t 8],
 ⟨none,none,.store 9,[.t 10,.t 90]⟩,
 mc 11 (.int .i64 1)]) (.lay 4 9))
 .ret)
 (.sr [fa 92 4 8,
 ld 93 92,
 fa 94 1 7,
 ld 95 94,
 ii 96 .len [.t 95],
 b1 97 .sub 96 (.int .i64 1),
 b2 98 .eql 93 97,
 mt 91 98]
 (.cond (.t 91)
 (.seq
 (.gp (.reg [mv 99 4,
 b1 100 .add 99 (.int .i64 1),
 fa 101 0 8,
 ⟨none,none,.store 1,[.t 101,cI 5]⟩,
 fa 102 8 8,
 ⟨none,none,.store 1,[.t 102,.t 100]⟩]) (.lay 3 9))
 (.seq
 (.gp (.reg [ii 103 (.load 9 true false) [.t 8],
 ⟨none,none,.store 9,[.t 10,.t 103]⟩,
 mc 11 (.int .i64 5)]) (.lay 4 9))
 .ret))
 .skip)))))))))
 (.seq
 (.gp (.reg [fa 104 4 8,
 ld 105 104,
 b1 106 .add 105 (.int .i64 1),
 fa 107 4 8,
 ⟨none,none,.store 1,[.t 107,.t 106]⟩]) (.lay 3 9))
 (.seq
 (.gp (.regd [fa 108 1 7,
 ii 109 (.at 2 (.load 1 false false)) [.t 108],
 fa 110 4 8,
 ii 111 (.at 3 (.load 1 false false)) [.t 110],
 ii 112 (.iad 4) [.t 109,.t 111],
 fa 113 3 112,
 ii 114 (.loadp 1 false) [.t 113],
 fa 115 3 5,
 ii 116 (.at 0 (.load 1 false false)) [.t 115],
 fa 117 0 8,
 ⟨none,none,.at 3 (.store 1),[.t 117,cI 1]⟩,
 fa 118 5 8,
 ⟨none,none,.at 3 (.store 1),[.t 118,.t 114]⟩,
 fa 119 6 8,
 ⟨none,none,.at 3 (.store 1),[.t 119,.t 116]⟩]) (.lay 3 9))
 (.seq
 (.gp (.reg [ii 120 (.load 9 true false) [.t 8],
 ⟨none,none,.store 9,[.t 10,.t 120]⟩,
 mc 11 (.int .i64 4)]) (.lay 4 9))
 .ret)))))))))⟩
theorem mJ:aC Tryz.prog 20 F20=true:=by kernel_rfl
def F22:Fn:=⟨16,1,[.tmp 2],
 (.sr [ii 1 (.box 0 9) [.t 0],
 mc 2 (.bool false)]
 (.sr [fa 3 0 1,
 ld 4 3,
 b1 5 .eql 4 (.int .i64 1),
 mv 6 5,
 gf 7 6 (.fad 0) [.t 1],
 gf 8 6 (.load 1 false false) [.t 7],
 gf 9 6 (.bin .eql) [.t 8,cI 2],
 ii 10 .pick [.t 6,.c (.p (.bool true)),.t 9],
 mv 11 10,
 gf 12 11 (.fad 0) [.t 1],
 gf 13 11 (.load 1 false false) [.t 12],
 gf 14 11 (.bin .eql) [.t 13,cI 3],
 ii 15 .pick [.t 11,.c (.p (.bool true)),.t 14],
 mt 2 15]
 .ret))⟩
theorem YJ:aC Tryz.prog 22 F22=true:=by kernel_rfl
def F24:Fn:=⟨19,2,[.tmp 4],
 (.sr [ii 2 (.box 0 2) [.t 0],
 ii 3 (.box 1 9) [.t 1],
 mc 4 (.int .i64 0)]
 (.seq
 (.sr [ii 5 (.load 2 true false) [.t 2],
 ii 6 (.load 9 true false) [.t 3],
 ii 7 (.call 53) [.t 5,.t 6],
 ii 8 (.un .not) [.t 7]]
 (.cond (.t 8)
 (.sr [mc 4 (.int .i64 0)]
 .ret)
 .skip))
 (.seq
 (.regd [fa 9 1 3,
 ii 10 (.at 1 (.load 1 false false)) [.t 9],
 fa 11 1 2,
 ii 12 (.at 0 (.load 1 false false)) [.t 11],
 fa 13 4 3,
 ii 14 (.at 1 (.load 1 false false)) [.t 13],
 ii 15 (.iad 4) [.t 12,.t 14],
 fa 16 1 15,
 ii 17 (.loadp 1 false) [.t 16],
 b2 18 .add 10 17,
 mt 4 18])
 .ret)))⟩
theorem k24:aC Tryz.prog 24 F24=true:=by kernel_rfl
def F25:Fn:=⟨11,2,[.tmp 4],
 (.sr [ii 2 (.box 0 2) [.t 0],
 ii 3 (.box 1 9) [.t 1],
 mc 4 (.int .i64 0)]
 (.sr [ii 5 (.load 2 true false) [.t 2],
 fa 6 4 3,
 ld 7 6,
 fa 8 1 3,
 ld 9 8,
 ii 10 (.call 26) [.t 5,.t 7,.t 9],
 mt 4 10]
 .ret))⟩
theorem k25:aC Tryz.prog 25 F25=true:=by kernel_rfl
def F53:Fn:=⟨16,2,[.tmp 4],
 (.sr [ii 2 (.box 0 2) [.t 0],
 ii 3 (.box 1 9) [.t 1],
 mc 4 (.bool false)]
 (.sr [fa 5 4 3,
 ld 6 5,
 b1 7 .geq 6 (.int .i64 0),
 mv 8 7,
 gt 9 8 (.fad 4) [.t 3],
 gt 10 8 (.load 1 false false) [.t 9],
 gt 11 8 (.fad 1) [.t 2],
 gt 12 8 (.load 1 false false) [.t 11],
 gt 13 8 .len [.t 12],
 gt 14 8 (.bin .lss) [.t 10,.t 13],
 ii 15 .pick [.t 8,.t 14,.c (.p (.bool false))],
 mt 4 15]
 .ret))⟩
theorem YN:aC Tryz.prog 53 F53=true:=by kernel_rfl
def F44:Fn:=⟨2,0,[.tmp 0],
 (.sr [mc 0 (.bool false)]
 (.sr [ii 1 (.call 76) [],
 mt 0 1]
 .ret))⟩
theorem k44:aC Tryz.prog 44 F44=true:=by kernel_rfl
def F76:Fn:=⟨182,0,[.tmp 0],
 (.sr [mc 0 (.bool false)]
 (.sr [ii 24 (.ob (.callo 109 true)) [cI 2],
 mt 1 24]
 (.sr [ii 25 (.ob (.callo 110 true)) [cI 2],
 mt 2 25]
 (.sr [ii 26 (.ob (.callo 111 true)) [cI 3],
 mt 3 26]
 (.sr [ii 27 (.ob (.callo 112 true)) [cI 1],
 mt 4 27]
 (.sr [ii 28 (.ob (.callo 60 true)) [cI 3],
 mt 5 28]
 (.seq
 (.sr [mv 29 1,
 ii 30 (.ob (.eqp false)) [.t 29,.c (.p (.atom (.pointer none)))],
 mv 31 30,
 gf 32 31 (.mov false) [.t 2],
 gf 33 31 (.ob (.eqp false)) [.t 32,.c (.p (.atom (.pointer none)))],
 ii 34 .pick [.t 31,.c (.p (.bool true)),.t 33],
 mv 35 34,
 gf 36 35 (.mov false) [.t 3],
 gf 37 35 (.ob (.eqp false)) [.t 36,.c (.p (.atom (.pointer none)))],
 ii 38 .pick [.t 35,.c (.p (.bool true)),.t 37],
 mv 39 38,
 gf 40 39 (.mov false) [.t 4],
 gf 41 39 (.ob (.eqp false)) [.t 40,.c (.p (.atom (.pointer none)))],
 ii 42 .pick [.t 39,.c (.p (.bool true)),.t 41],
 mv 43 42,
 gf 44 43 (.mov false) [.t 5],
 gf 45 43 (.ob (.eqp false)) [.t 44,.c (.p (.atom (.pointer none)))],
 ii 46 .pick [.t 43,.c (.p (.bool true)),.t 45]]
 (.cond (.t 46)
 (.sr [mc 0 (.bool false)]
 .ret)
 .skip))
 (.sr [mv 47 1,
 ⟨some 48,none,.ob (.callo 113 true),[.t 47,.c (.p (.str ⟨#[120]⟩)),cI 5,cI 1]⟩,
 mv 49 1,
 ⟨some 50,none,.ob (.callo 113 true),[.t 49,.c (.p (.str ⟨#[121]⟩)),cI 3,cI 9]⟩,
 mv 51 1,
 ⟨some 52,none,.ob (.callo 113 true),[.t 51,.c (.p (.str ⟨#[122]⟩)),cI 1,cI 1]⟩,
 mt 6 48,
 mt 7 50,
 mt 8 52]
 (.sr [mv 54 1,
 ii 55 (.ob (.callo 114 false)) [.t 54],
 mv 53 55,
 ii 56 (.ext 0) [.t 53],
 ii 57 (.ext 1) [.t 53],
 mt 9 56,
 mt 10 57]
 (.sr [mv 58 2,
 ii 59 (.ob (.callo 115 false)) [.t 58,cI 4],
 mv 60 2,
 ii 61 (.ob (.callo 115 false)) [.t 60,cI 5],
 mt 11 59,
 mt 12 61]
 (.sr [mv 63 2,
 ii 64 (.ob (.callo 116 false)) [.t 63],
 mv 62 64,
 ii 65 (.ext 0) [.t 62],
 ii 66 (.ext 1) [.t 62],
 mt 13 65,
 mt 14 66]
 (.sr [mv 67 3,
 ⟨some 68,none,.ob (.callo 117 false),[.t 67,.c (.p (.str ⟨#[97]⟩))]⟩,
 mv 69 3,
 ⟨some 70,none,.ob (.callo 117 false),[.t 69,.c (.p (.str ⟨#[98]⟩))]⟩,
 mt 15 68,
 mt 16 70]
 (.sr [mv 71 3,
 ii 72 (.ob (.callo 118 false)) [.t 71,cI 1]]
 (.sr [mv 73 4,
 ii 74 (.ob (.callo 119 false)) [.t 73,cI 7],
 mv 75 4,
 ii 76 (.ob (.callo 119 false)) [.t 75,cI 8],
 mt 17 74,
 mt 18 76]
 (.sr [ii 78 (.ob (.callo 112 true)) [cI 1],
 mv 79 4,
 ii 80 (.ob (.callo 120 false)) [.t 78,.t 79],
 mv 77 80,
 ii 81 (.ext 0) [.t 77],
 ii 82 (.ext 1) [.t 77],
 mt 19 81,
 mt 20 82]
 (.sr [mv 83 5,
 ii 84 (.ob (.callo 91 true)) [.t 83,cI 9,cI 4],
 mt 21 84]
 (.sr [mv 85 5,
 ii 86 (.ob (.callo 63 false)) [.t 85,cI 4],
 mv 87 5,
 ii 88 (.ob (.callo 63 false)) [.t 87,cI 9],
 mt 22 86,
 mt 23 88]
 (.sr [ii 89 (.call 121) [],
 mv 90 89,
 gt 91 90 (.mov false) [.t 6],
 ii 92 .pick [.t 90,.t 91,.c (.p (.bool false))],
 mv 93 92,
 gt 94 93 (.mov false) [.t 7],
 ii 95 .pick [.t 93,.t 94,.c (.p (.bool false))],
 mv 96 95,
 gt 97 96 (.mov false) [.t 8],
 gt 98 96 (.un .not) [.t 97],
 ii 99 .pick [.t 96,.t 98,.c (.p (.bool false))],
 mv 100 99,
 gt 101 100 (.mov false) [.t 10],
 ii 102 .pick [.t 100,.t 101,.c (.p (.bool false))],
 mv 103 102,
 gt 104 103 (.mov false) [.t 9],
 ⟨some 105,(some (103,true)),.bin .eql,[.t 104,.c (.p (.str ⟨#[121]⟩))]⟩,
 ii 106 .pick [.t 103,.t 105,.c (.p (.bool false))],
 mv 107 106,
 gt 108 107 (.mov false) [.t 11],
 ii 109 .pick [.t 107,.t 108,.c (.p (.bool false))],
 mv 110 109,
 gt 111 110 (.mov false) [.t 12],
 ii 112 .pick [.t 110,.t 111,.c (.p (.bool false))],
 mv 113 112,
 gt 114 113 (.mov false) [.t 14],
 ii 115 .pick [.t 113,.t 114,.c (.p (.bool false))],
 mv 116 115,
 gt 117 116 (.mov false) [.t 13],
 gt 118 116 (.bin .eql) [.t 117,cI 4],
 ii 119 .pick [.t 116,.t 118,.c (.p (.bool false))],
 mv 120 119,
 gt 121 120 (.mov false) [.t 15],
 gt 122 120 (.bin .eql) [.t 121,cI 1],
 ii 123 .pick [.t 120,.t 122,.c (.p (.bool false))],
 mv 124 123,
 gt 125 124 (.mov false) [.t 16],
 gt 126 124 (.bin .eql) [.t 125,cI 2],
 ii 127 .pick [.t 124,.t 126,.c (.p (.bool false))],
 mv 128 127,
 gt 129 128 (.mov false) [.t 3],
 ⟨some 130,(some (128,true)),.ob (.callo 117 false),[.t 129,.c (.p (.str ⟨#[99]⟩))]⟩,
 gt 131 128 (.bin .eql) [.t 130,cI 1],
 ii 132 .pick [.t 128,.t 131,.c (.p (.bool false))],
 mv 133 132,
 gt 134 133 (.mov false) [.t 17],
 ii 135 .pick [.t 133,.t 134,.c (.p (.bool false))],
 mv 136 135,
 gt 137 136 (.mov false) [.t 18],
 gt 138 136 (.un .not) [.t 137],
 ii 139 .pick [.t 136,.t 138,.c (.p (.bool false))],
 mv 140 139,
 gt 141 140 (.mov false) [.t 19],
 gt 142 140 (.bin .eql) [.t 141,cI 7],
 ii 143 .pick [.t 140,.t 142,.c (.p (.bool false))],
 mv 144 143,
 gt 145 144 (.mov false) [.t 20],
 gt 146 144 (.bin .eql) [.t 145,cI 2],
 ii 147 .pick [.t 144,.t 146,.c (.p (.bool false))],
 mv 148 147,
 gt 149 148 (.mov false) [.t 21],
 ii 150 .pick [.t 148,.t 149,.c (.p (.bool false))],
 mv 151 150,
 gt 152 151 (.mov false) [.t 22],
 gt 153 151 .len [.t 152],
 gt 154 151 (.bin .eql) [.t 153,cI 1],
 ii 155 .pick [.t 151,.t 154,.c (.p (.bool false))],
 mv 156 155,
 gt 157 156 (.mov false) [.t 22],
 gt 158 156 (.iad 1) [.t 157,cI 0],
 gt 159 156 (.load 1 false false) [.t 158],
 gt 160 156 (.bin .eql) [.t 159,cI 9],
 ii 161 .pick [.t 156,.t 160,.c (.p (.bool false))],
 mv 162 161,
 gt 163 162 (.mov false) [.t 23],
 gt 164 162 .len [.t 163],
 gt 165 162 (.bin .eql) [.t 164,cI 0],
 ii 166 .pick [.t 162,.t 165,.c (.p (.bool false))],
 mv 167 166,
 gt 168 167 (.mov false) [.t 1],
 gt 169 167 (.ob (.callo 122 false)) [.t 168],
 gt 170 167 (.bin .eql) [.t 169,cI 2],
 ii 171 .pick [.t 167,.t 170,.c (.p (.bool false))],
 mv 172 171,
 gt 173 172 (.mov false) [.t 2],
 gt 174 172 (.ob (.callo 123 false)) [.t 173],
 gt 175 172 (.bin .eql) [.t 174,cI 1],
 ii 176 .pick [.t 172,.t 175,.c (.p (.bool false))],
 mv 177 176,
 gt 178 177 (.mov false) [.t 4],
 gt 179 177 (.ob (.callo 124 false)) [.t 178],
 gt 180 177 (.bin .eql) [.t 179,cI 0],
 ii 181 .pick [.t 177,.t 180,.c (.p (.bool false))],
 mt 0 181]
 .ret))))))))))))))))))⟩
theorem k76:aC Tryz.prog 76 F76=true:=by kernel_rfl
def F15:Fn:=⟨150,4,[.tmp 0],
 (.sr [mc 0 (.bool false)]
 (.seq
 (.gp (.reg [⟨some 15,none,.build [.int .i64 0,.int .i64 0,.int .i64 0,.int .i64 0] [(2,1),(3,1)],[cI 5,cI 2]⟩,
 ii 16 (.bsl 4 1) [.t 15],
 ⟨some 17,none,.build [.int .i64 0,.sl 4 true []] [(0,1),(1,1)],[cI 1,.t 16]⟩,
 ⟨some 1,none,.alloc 0 2 [Z0,.ow 4 true []],[]⟩,
 ⟨none,none,.store 2,[.t 1,.t 17]⟩]) (.lay 0 2))
 (.seq
 (.gp (.reg [ii 18 (.load 2 true false) [.t 1],
 ii 19 (.call 19) [.t 18,cI 3,cI 2],
 ⟨some 2,none,.alloc 1 9 [Z0,Z0,Z0,Z0,Z0,Z0,Z0,Z0,Z0],[]⟩,
 ⟨none,none,.store 9,[.t 2,.t 19]⟩]) (.lay 1 9))
 (.seq
 (.gp (.reg [⟨some 21,none,.build [.int .i64 0,.int .i64 0,.int .i64 0,.int .i64 0,.sl 1 true []] [(0,1)],[cI 1]⟩,
 ⟨some 22,none,.build [.int .i64 0,.int .i64 0,.int .i64 0,.sl 3 true []] [(0,1),(1,1),(2,1)],[cI 2,cI 5,cI 5]⟩,
 ii 23 (.load 2 true false) [.t 1],
 ii 24 (.load 9 true false) [.t 2],
 ii 25 (.call 20) [.t 21,.t 22,.t 23,.t 24,cI 7],
 mv 20 25,
 ii 26 (.ext 0) [.t 20],
 ii 27 (.ext 1) [.t 20],
 ⟨some 3,none,.alloc 2 9 [Z0,Z0,Z0,Z0,Z0,Z0,Z0,Z0,Z0],[]⟩,
 ⟨none,none,.store 9,[.t 3,.t 26]⟩,
 mt 4 27]) (.lay 2 9))
 (.seq
 (.gp (.reg [⟨some 29,none,.build [.int .i64 0,.int .i64 0,.int .i64 0,.int .i64 0,.sl 1 true []] [(0,1)],[cI 1]⟩,
 ⟨some 30,none,.build [.int .i64 0,.int .i64 0,.int .i64 0,.sl 3 true []] [(0,1),(1,1),(2,1)],[cI 2,cI 5,cI 5]⟩,
 ii 31 (.load 2 true false) [.t 1],
 ii 32 (.load 9 true false) [.t 3],
 ii 33 (.call 20) [.t 29,.t 30,.t 31,.t 32,cI 8],
 mv 28 33,
 ii 34 (.ext 0) [.t 28],
 ii 35 (.ext 1) [.t 28],
 ⟨some 5,none,.alloc 3 9 [Z0,Z0,Z0,Z0,Z0,Z0,Z0,Z0,Z0],[]⟩,
 ⟨none,none,.store 9,[.t 5,.t 34]⟩,
 mt 6 35]) (.lay 3 9))
 (.sr [ii 36 (.ob (.callo 27 true)) [],
 ii 37 (.ob (.callo 36 true)) [],
 ii 38 (.ob (.callo 32 true)) [],
 mt 7 36,
 mt 8 37,
 mt 9 38]
 (.seq
 (.sr [mv 39 7,
 ii 40 (.ob (.eqp false)) [.t 39,.c (.p (.atom (.pointer none)))],
 mv 41 40,
 gf 42 41 (.mov false) [.t 8],
 gf 43 41 (.ob (.eqp false)) [.t 42,.c (.p (.atom (.pointer none)))],
 ii 44 .pick [.t 41,.c (.p (.bool true)),.t 43],
 mv 45 44,
 gf 46 45 (.mov false) [.t 9],
 gf 47 45 (.ob (.eqp false)) [.t 46,.c (.p (.atom (.pointer none)))],
 ii 48 .pick [.t 45,.c (.p (.bool true)),.t 47]]
 (.cond (.t 48)
 (.sr [mc 0 (.bool false)]
 .ret)
 .skip))
 (.sr [mv 49 7,
 ii 50 (.ob (.callo 28 true)) [.t 49,cI 2,cI 9]]
 (.sr [mv 51 7,
 ii 52 (.ob (.callo 28 true)) [.t 51,cI 1,cI 9]]
 (.sr [mv 53 8,
 ii 54 (.ob (.callo 37 false)) [.t 53,cI 4,cI 1],
 mt 10 54]
 (.sr [mv 56 8,
 ii 57 (.ob (.callo 38 false)) [.t 56],
 mv 55 57,
 ii 58 (.ext 0) [.t 55],
 ii 59 (.ext 1) [.t 55],
 mt 11 58,
 mt 12 59]
 (.sr [mv 60 9,
 ⟨some 61,none,.build [.int .i64 0,.int .i64 0,.int .i64 0,.int .i64 0,.int .i64 0] [(0,1),(1,1),(3,1)],[cI 2,cI 2,cI 5]⟩,
 ii 62 (.ob (.callo 33 true)) [.t 60,.t 61],
 mt 13 62]
 (.sr [mv 63 9,
 ii 64 (.ob (.callo 34 true)) [.t 63,cI 5],
 mt 14 64]
 (.sr [ii 65 (.call 43) [],
 mv 66 65,
 gt 67 66 (.call 44) [],
 ii 68 .pick [.t 66,.t 67,.c (.p (.bool false))],
 mv 69 68,
 gt 70 69 (.fad 0) [.t 2],
 gt 71 69 (.load 1 false false) [.t 70],
 gt 72 69 (.bin .eql) [.t 71,cI 2],
 ii 73 .pick [.t 69,.t 72,.c (.p (.bool false))],
 mv 74 73,
 gt 75 74 (.load 9 true false) [.t 2],
 gt 76 74 (.call 22) [.t 75],
 ii 77 .pick [.t 74,.t 76,.c (.p (.bool false))],
 mv 78 77,
 gt 79 78 (.load 2 true false) [.t 1],
 gt 80 78 (.load 9 true false) [.t 2],
 gt 81 78 (.call 25) [.t 79,.t 80],
 gt 82 78 (.bin .eql) [.t 81,cI 8],
 ii 83 .pick [.t 78,.t 82,.c (.p (.bool false))],
 mv 84 83,
 gt 85 84 (.load 2 true false) [.t 1],
 gt 86 84 (.load 9 true false) [.t 2],
 gt 87 84 (.call 24) [.t 85,.t 86],
 gt 88 84 (.bin .eql) [.t 87,cI 3],
 ii 89 .pick [.t 84,.t 88,.c (.p (.bool false))],
 mv 90 89,
 gt 91 90 (.mov false) [.t 4],
 gt 92 90 (.bin .eql) [.t 91,cI 1],
 ii 93 .pick [.t 90,.t 92,.c (.p (.bool false))],
 mv 94 93,
 gt 95 94 (.fad 3) [.t 3],
 gt 96 94 (.load 1 false false) [.t 95],
 gt 97 94 (.bin .eql) [.t 96,cI 1],
 ii 98 .pick [.t 94,.t 97,.c (.p (.bool false))],
 mv 99 98,
 gt 100 99 (.mov false) [.t 6],
 gt 101 99 (.bin .eql) [.t 100,cI 2],
 ii 102 .pick [.t 99,.t 101,.c (.p (.bool false))],
 mv 103 102,
 gt 104 103 (.fad 8) [.t 5],
 gt 105 103 (.load 1 false false) [.t 104],
 gt 106 103 (.bin .eql) [.t 105,cI 9],
 ii 107 .pick [.t 103,.t 106,.c (.p (.bool false))],
 mv 108 107,
 gt 109 108 (.mov false) [.t 7],
 gt 110 108 (.ob (.callo 30 false)) [.t 109],
 gt 111 108 (.bin .eql) [.t 110,cI 1],
 ii 112 .pick [.t 108,.t 111,.c (.p (.bool false))],
 mv 113 112,
 gt 114 113 (.mov false) [.t 7],
 gt 115 113 (.ob (.callo 29 false)) [.t 114,cI 1],
 ii 116 .pick [.t 113,.t 115,.c (.p (.bool false))],
 mv 117 116,
 gt 118 117 (.mov false) [.t 7],
 gt 119 117 (.ob (.callo 31 false)) [.t 118],
 gt 120 117 (.bin .eql) [.t 119,cI 1],
 ii 121 .pick [.t 117,.t 120,.c (.p (.bool false))],
 mv 122 121,
 gt 123 122 (.mov false) [.t 10],
 ii 124 .pick [.t 122,.t 123,.c (.p (.bool false))],
 mv 125 124,
 gt 126 125 (.mov false) [.t 11],
 gt 127 125 (.bin .eql) [.t 126,cI 4],
 ii 128 .pick [.t 125,.t 127,.c (.p (.bool false))],
 mv 129 128,
 gt 130 129 (.mov false) [.t 12],
 ii 131 .pick [.t 129,.t 130,.c (.p (.bool false))],
 mv 132 131,
 gt 133 132 (.mov false) [.t 8],
 gt 134 132 (.ob (.callo 39 false)) [.t 133],
 gt 135 132 (.bin .eql) [.t 134,cI 0],
 ii 136 .pick [.t 132,.t 135,.c (.p (.bool false))],
 mv 137 136,
 gt 138 137 (.mov false) [.t 13],
 ii 139 .pick [.t 137,.t 138,.c (.p (.bool false))],
 mv 140 139,
 gt 141 140 (.mov false) [.t 14],
 gt 142 140 .len [.t 141],
 gt 143 140 (.bin .eql) [.t 142,cI 1],
 ii 144 .pick [.t 140,.t 143,.c (.p (.bool false))],
 mv 145 144,
 gt 146 145 (.mov false) [.t 9],
 gt 147 145 (.ob (.callo 35 true)) [.t 146],
 gt 148 145 (.bin .eql) [.t 147,cI 0],
 ii 149 .pick [.t 145,.t 148,.c (.p (.bool false))],
 mt 0 149]
 .ret))))))))))))))⟩
theorem k15:aC Tryz.prog 15 F15=true:=by kernel_rfl
end Go.Proofs.YtnjphclbpgajpaaGreatDoor.Vc
