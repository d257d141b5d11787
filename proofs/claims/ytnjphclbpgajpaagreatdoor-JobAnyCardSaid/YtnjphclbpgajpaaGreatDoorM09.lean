/- Part of a proof over a Go program: Cb, Fn1, MaSort, MaWin, MaPlan, MaPick, Cc, Cd, Rd, Ent, Cp, Cpl, Fj, Fl, Cj, Enj, MaMay, MaLaws, MaJob. No condition. -/
import Derived.Test.YtnjphclbpgajpaaGreatDoorM08
import Derived.Test.YtnjphclbpgajpaaGreatDoorProg
import Derived.Test.YtnjphclbpgajpaaGreatDoorM01
import Derived.Test.YtnjphclbpgajpaaGreatDoorChecked
import Derived.ProofKit
import Derived.LaidMore
import Derived.OpenShut
import Derived.Stop.Joined
import Derived.Lay
import Derived.SevenTiedAt
import Derived.Test.YtnjphclbpgajpaaGreatDoorRows
set_option linter.unnecessarySimpa false
set_option linter.unusedSectionVars false
set_option linter.unusedSimpArgs false
set_option linter.unusedVariables false
set_option maxHeartbeats 4000000
set_option maxRecDepth 100000
namespace Go.Proofs.YtnjphclbpgajpaaGreatDoor.Vc
open Go.RowKit Ma
theorem b7u{n:Nat}(h:n<=24):n<=maxLen:=Nat.le_trans h (by decide)
theorem b8k(nl:Bool)(l:List Ld):a0A Tryz.prog 42 [sL nl l] (.p (.bool (a3j l))):=by
 have hld:=b7z;refine Fn.run k42 rfl ?_;generalize Tryz.prog=P at *
 (repeat'((conv=>whnf);first|exact trivial|(with_reducible first|refine zX ?_|refine zP ?_|refine zL ?_)|refine⟨rfl,?_⟩|refine⟨_,rfl,?_⟩|refine⟨fun _=>?_,fun _=>?_⟩|refine zn ?_|refine zb rfl ?_|refine zX ?_|refine zo rfl ?_|refine zs ?_|intro _));all_goals(try(conv=>whnf))
 refine a0O (fun n s=>∃i:Nat,n+i=l.length/\(l.drop i).all Ld.ok=l.all Ld.ok/\s=⟨mkT 19 [(0,.p (sL nl l)),(3,.p (.int .i64 i))],[]⟩) l.length ?_ ?_
 ·conv=>whnf
  exact⟨0,rfl,rfl,rfl⟩
 ·rintro n st b N ⟨i,hi,hI,e⟩ hN
  cases e
  by_cases hlt:i<l.length
  ·have hrow:(l.map eL)[i]?=some (eL l[i]):=by simp[hlt]
   have hb:=a7Y (n:=(l.map eL).length) (by simpa using hlt)
   have hc:=hld l[i];rw[List.drop_eq_getElem_cons hlt] at hI;simp only[List.all_cons] at hI
   (repeat'((conv=>whnf);first|exact trivial|(with_reducible first|refine zX ?_|refine zP ?_|refine zL ?_)|refine⟨rfl,?_⟩|refine⟨_,rfl,?_⟩|refine⟨fun _=>?_,fun _=>?_⟩|refine zn ?_|refine zb rfl ?_|refine zX ?_|refine zo rfl ?_|refine zs ?_|intro _));all_goals(try(conv=>whnf))
   ·rename_i e
    refine a0J ?_;unfold a3j;simp only[Bool.not_eq_true'] at e;rw[<-hI,e];simp
   ·rename_i hlen e
    simp only[Bool.not_eq_false'] at e;rw[a2F (by simpa using hlt) hlen]
    rw[e,Bool.true_and] at hI;exact hN (n-1) _ (by omega) ⟨i+1,by omega,hI,rfl⟩
  ·have hb:=a8R (n:=(l.map eL).length) (by simpa using hlt)
   (repeat'((conv=>whnf);first|exact trivial|(with_reducible first|refine zX ?_|refine zP ?_|refine zL ?_)|refine⟨rfl,?_⟩|refine⟨_,rfl,?_⟩|refine⟨fun _=>?_,fun _=>?_⟩|refine zn ?_|refine zb rfl ?_|refine zX ?_|refine zo rfl ?_|refine zs ?_|intro _));all_goals(try(conv=>whnf))
   refine a0J ?_;unfold a3j;rw[List.drop_of_length_le (by omega)] at hI
   simp only[List.all_nil] at hI;rw[<-hI,Bool.and_true,Bool.eq_iff_iff,decide_eq_true_eq,decide_eq_true_eq,List.length_map];omega
theorem b1N{l:List Ld}(h:(a0j l).2=false):(a0j l).1=0:=by
 unfold a0j at *
 split at h<;>rename_i h1
 ·rw[if_pos h1]
 ·rw[if_neg h1]
  split at h<;>rename_i h2
  ·cases h
  ·rw[if_neg h2]
   split at h<;>rename_i h3
   ·cases h
   ·rw[dif_neg h3]
theorem c1C(nl:Bool)(l:List Ld):a0A Tryz.prog 167 [sL nl l] (.tup [.p (.int .i64 (a0j l).1),.p (.bool (a0j l).2)]):=by
 have hm:=b8k nl l
 cases hl:a3j l with
 |false=>
  rw[hl] at hm;rw[a6j hl];refine Fn.run c2R rfl ?_;generalize Tryz.prog=P at *
  (repeat'((conv=>whnf);first|exact trivial|(with_reducible first|refine zX ?_|refine zP ?_|refine zL ?_)|refine⟨rfl,?_⟩|refine⟨_,rfl,?_⟩|refine⟨fun _=>?_,fun _=>?_⟩|refine zn ?_|refine zb rfl ?_|refine zX ?_|refine zo rfl ?_|refine zs ?_|intro _));all_goals(try(conv=>whnf))
  rfl
 |true=>
  rw[hl] at hm
  by_cases hn:l=[]
  ·subst hn
   rw[a4K];have hz:((([]:List Ld).map eL).length:Int) ==0:=rfl;refine Fn.run c2R rfl ?_;generalize Tryz.prog=P at *
   (repeat'((conv=>whnf);first|exact trivial|(with_reducible first|refine zX ?_|refine zP ?_|refine zL ?_)|refine⟨rfl,?_⟩|refine⟨_,rfl,?_⟩|refine⟨fun _=>?_,fun _=>?_⟩|refine zn ?_|refine zb rfl ?_|refine zX ?_|refine zo rfl ?_|refine zs ?_|intro _));all_goals(try(conv=>whnf))
   rfl
  ·have hl':=a0n.1 hl
   have hz:(((l.map eL).length:Int) ==0)=false:=by
    cases l with
    |nil=>exact absurd rfl hn
    |cons x xs=>simp;omega
   refine Fn.run c2R rfl ?_;generalize Tryz.prog=P at *
   (repeat'((conv=>whnf);first|exact trivial|(with_reducible first|refine zX ?_|refine zP ?_|refine zL ?_)|refine⟨rfl,?_⟩|refine⟨_,rfl,?_⟩|refine⟨fun _=>?_,fun _=>?_⟩|refine zn ?_|refine zb rfl ?_|refine zX ?_|refine zo rfl ?_|refine zs ?_|intro _));all_goals(try(conv=>whnf))
   refine a0O (fun n s=>∃t:Int,n=(20001-t).toNat/\Seek l t/\s=⟨mkT 47 [(0,.p (sL nl l)),(4,.p (.int .i64 t))],[]⟩) 20000 ?_ ?_
   ·conv=>whnf
    exact⟨1,rfl,Seek.start hl hn,rfl⟩
   ·rintro n st b N ⟨t,hnn,hs,e⟩ hN
    cases e
    by_cases ht:t<=20000
    ·have hb:decide (t<=20000)=true:=decide_eq_true ht
     have ht1:=hs.lo
     (repeat'((conv=>whnf);first|exact trivial|(with_reducible first|refine zX ?_|refine zP ?_|refine zL ?_)|refine⟨rfl,?_⟩|refine⟨_,rfl,?_⟩|refine⟨fun _=>?_,fun _=>?_⟩|refine zn ?_|refine zb rfl ?_|refine zX ?_|refine zo rfl ?_|refine zs ?_|intro _));all_goals(try(conv=>whnf))
     refine a0O (fun n s=>∃(i:Nat) (acc:Int),n+i=l.length/\acc+a2E (a7g t) (l.drop i)=a1K l t/\0<=acc/\acc<=i*400000000 /\
      s=⟨mkT 47 [(0,.p (sL nl l)),(4,.p (.int .i64 t)),(5,.p (.int .i64 acc)),(6,.p (.int .i64 i))],[]⟩) l.length ?_ ?_
     ·conv=>whnf
      exact⟨0,0,rfl,by simp[a1K],Int.le_refl _,by omega,rfl⟩
     ·rintro m st2 b2 N2 ⟨i,acc,hi,hI,ha1,ha2,e2⟩ hN2
      cases e2
      by_cases hlt:i<l.length
      ·have hrow:(l.map eL)[i]?=some (eL l[i]):=by simp[hlt]
       have hb2:=a7Y (n:=(l.map eL).length) (by simpa using hlt)
       have hok:=hl'.2 l[i] (List.getElem_mem _);have hokp:=Ld.ok_iff.1 hok;have htn:l[i].t≠0:=by omega
       have hbd:=a3U hok ht1 ht;rw[List.drop_eq_getElem_cons hlt] at hI;simp only[a2E] at hI
       (repeat'((conv=>whnf);first|exact trivial|(with_reducible first|refine zX ?_|refine zP ?_|refine zL ?_)|refine⟨rfl,?_⟩|refine⟨_,rfl,?_⟩|refine⟨fun _=>?_,fun _=>?_⟩|refine zn ?_|refine zb rfl ?_|refine zX ?_|refine zo rfl ?_|refine zs ?_|intro _));all_goals(try(conv=>whnf))
       rw[a2F (n:=l.length) hlt (b7u hl'.1)];have hq:0<=(t-1)/l[i].t/\(t-1)/l[i].t<=t-1:=⟨Int.ediv_nonneg (by omega) (by omega),Int.ediv_le_self _ (by omega)⟩
       have e0:IntKind.wrap .i64 (t-1)=t-1:=a0T (by omega) (by omega)
       rw[e0,Int.tdiv_eq_ediv_of_nonneg (by omega),a0T (n:=(t-1)/l[i].t) (by omega) (by omega),a0T (n:=(t-1)/l[i].t+1) (by omega) (by omega)]
       have e1:IntKind.wrap .i64 (l[i].c*((t-1)/l[i].t+1))=a7g t l[i]:=a0T (by unfold a7g at hbd;omega) (by unfold a7g at hbd;omega)
       rw[e1,a0T (by omega) (by omega)]
       exact hN2 (m-1) _ (by omega) ⟨i+1,acc+a7g t l[i],by omega,by omega,by omega,by omega,rfl⟩
      ·have hb2:=a8R (n:=(l.map eL).length) (by simpa using hlt)
       rw[List.drop_of_length_le (by omega)] at hI
       simp only[a2E] at hI;have hI:acc=a1K l t:=by omega
       subst hI
       (repeat'((conv=>whnf);first|exact trivial|(with_reducible first|refine zX ?_|refine zP ?_|refine zL ?_)|refine⟨rfl,?_⟩|refine⟨_,rfl,?_⟩|refine⟨fun _=>?_,fun _=>?_⟩|refine zn ?_|refine zb rfl ?_|refine zX ?_|refine zo rfl ?_|refine zs ?_|intro _));all_goals(try(conv=>whnf))
       ·rename_i e
        rw[hs.found ht (by simpa using e)];rfl
       ·rename_i e
        have hx:=hs.next ht (by simpa using e)
        exact hN _ _ (by omega) ⟨a1K l t,rfl,hx.1,rfl⟩
    ·have hb:decide (t<=20000)=false:=decide_eq_false ht
     (repeat'((conv=>whnf);first|exact trivial|(with_reducible first|refine zX ?_|refine zP ?_|refine zL ?_)|refine⟨rfl,?_⟩|refine⟨_,rfl,?_⟩|refine⟨fun _=>?_,fun _=>?_⟩|refine zn ?_|refine zb rfl ?_|refine zX ?_|refine zo rfl ?_|refine zs ?_|intro _));all_goals(try(conv=>whnf))
     rw[hs.never ht];rfl
def inc(t:Int)(x:Ld):Int:=if t≥x.d/\(t-x.d)%x.t=0 then x.c else 0
theorem b4a{l:List Ld}(hl:∀x,x∈l->x.ok=true)(t:Int):a2c l t=a2c l (t-1)+a2E (inc t) l:=by
 induction l with
 |nil=>simp[a2c,a2E]
 |cons x xs ih=>
  have h1:=a9R (hl x (List.mem_cons_self ..)) t;have h2:=ih fun y hy=>hl y (List.mem_cons_of_mem _ hy)
  simp only[a2c,a2E] at *;unfold inc at *;omega
theorem c1l(nl:Bool)(l:List Ld):a0A Tryz.prog 125 [sL nl l] (.tup [.p (.int .i64 (a1E l (a0j l).1)),.p (.bool (a0j l).2)]):=by
 have htm:=c1C nl l;have hrange:=a5r l;have hz:=b1N (l:=l);generalize hT:a0j l=T at *;obtain⟨e0,ok⟩:=T
 cases ok with
 |false=>
  have hz:=hz rfl;simp only at hz;subst hz;have hf0:a1E l 0=0:=a1f fun t h1 h2=>by omega
  have hb1:decide ((1:Int)<=0)=false:=by decide
  refine Fn.run c6z rfl ?_;generalize Tryz.prog=P at *
  (repeat'((conv=>whnf);first|exact trivial|(with_reducible first|refine zX ?_|refine zP ?_|refine zL ?_)|refine⟨rfl,?_⟩|refine⟨_,rfl,?_⟩|refine⟨fun _=>?_,fun _=>?_⟩|refine zn ?_|refine zb rfl ?_|refine zX ?_|refine zo rfl ?_|refine zs ?_|intro _));all_goals(try(conv=>whnf))
  refine a0O (fun n s=>s=⟨mkT 61 [(0,.p (sL nl l)),(4,.p (.int .i64 0)),(5,.p (.bool false)),(6,.p (.int .i64 0)),(7,.p (.int .i64 1))],[]⟩) 0 ?_ ?_
  ·conv=>whnf
   rfl
  ·rintro n st b N e hN
   cases e
   (repeat'((conv=>whnf);first|exact trivial|(with_reducible first|refine zX ?_|refine zP ?_|refine zL ?_)|refine⟨rfl,?_⟩|refine⟨_,rfl,?_⟩|refine⟨fun _=>?_,fun _=>?_⟩|refine zn ?_|refine zb rfl ?_|refine zX ?_|refine zo rfl ?_|refine zs ?_|intro _));all_goals(try(conv=>whnf))
   show a0r _=DV.tup [TV.p (.int .i64 (a1E l 0)),TV.p (.bool false)]
   rw[hf0];rfl
 |true=>
  have hl:=(a4Y (by rw[hT])).1
  have hl':=a0n.1 hl;simp only at hrange;refine Fn.run c6z rfl ?_;generalize Tryz.prog=P at *
  (repeat'((conv=>whnf);first|exact trivial|(with_reducible first|refine zX ?_|refine zP ?_|refine zL ?_)|refine⟨rfl,?_⟩|refine⟨_,rfl,?_⟩|refine⟨fun _=>?_,fun _=>?_⟩|refine zn ?_|refine zb rfl ?_|refine zX ?_|refine zo rfl ?_|refine zs ?_|intro _));all_goals(try(conv=>whnf))
  refine a0O (fun n s=>∃t:Int,n=(e0+1-t).toNat/\1<=t/\t<=e0+1/\(∀s,1<=s->s<t->a2c l s<=s) /\
   s=⟨mkT 61 [(0,.p (sL nl l)),(4,.p (.int .i64 e0)),(5,.p (.bool true)),(6,.p (.int .i64 (a2c l (t-1)))),(7,.p (.int .i64 t))],[]⟩) e0.toNat ?_ ?_
  ·conv=>whnf
   refine⟨1,by omega,Int.le_refl _,by omega,fun s h1 h2=>by omega,?_⟩
   have:a2c l (1-1)=0:=b2A hl;rw[this];rfl
  ·rintro n st b N ⟨t,hn,ht1,ht2,hdone,e⟩ hN
   cases e
   by_cases hte:t<=e0
   ·have hb:decide (t<=e0)=true:=decide_eq_true hte
    have hstep:=b4a hl'.2 t;have hb1:=a8x hl (t:=t-1) (by omega)
    have hb2:=a8x hl (t:=t) (by omega)
    (repeat'((conv=>whnf);first|exact trivial|(with_reducible first|refine zX ?_|refine zP ?_|refine zL ?_)|refine⟨rfl,?_⟩|refine⟨_,rfl,?_⟩|refine⟨fun _=>?_,fun _=>?_⟩|refine zn ?_|refine zb rfl ?_|refine zX ?_|refine zo rfl ?_|refine zs ?_|intro _));all_goals(try(conv=>whnf))
    refine a0O (fun n s=>∃(i:Nat) (acc:Int),n+i=l.length/\acc+a2E (inc t) (l.drop i)=a2c l t/\0<=acc/\acc<=9600000000+i*20000 /\
     s=⟨mkT 61 [(0,.p (sL nl l)),(4,.p (.int .i64 e0)),(5,.p (.bool true)),(6,.p (.int .i64 acc)),(7,.p (.int .i64 t)),(8,.p (.int .i64 i))],[]⟩) l.length ?_ ?_
    ·conv=>whnf
     exact⟨0,a2c l (t-1),rfl,by simpa using hstep.symm,hb1.1,by omega,rfl⟩
    ·rintro m st2 b2 N2 ⟨i,acc,hi,hI,ha1,ha2,e2⟩ hN2
     cases e2
     by_cases hlt:i<l.length
     ·have hrow:(l.map eL)[i]?=some (eL l[i]):=by simp[hlt]
      have hb3:=a7Y (n:=(l.map eL).length) (by simpa using hlt)
      have hokp:=Ld.ok_iff.1 (hl'.2 l[i] (List.getElem_mem _));have htn:l[i].t≠0:=by omega
      have hnx:IntKind.wrap .i64 ((i:Int)+1)=((i+1:Nat):Int):=a2F (n:=l.length) hlt (b7u hl'.1);rw[List.drop_eq_getElem_cons hlt] at hI;simp only[a2E] at hI;have htd:t≥l[i].d->IntKind.wrap .i64 (t-l[i].d)=t-l[i].d:=fun h=>a0T (by omega) (by omega)
      (repeat'((conv=>whnf);first|exact trivial|(with_reducible first|refine zX ?_|refine zP ?_|refine zL ?_)|refine⟨rfl,?_⟩|refine⟨_,rfl,?_⟩|refine⟨fun _=>?_,fun _=>?_⟩|refine zn ?_|refine zb rfl ?_|refine zX ?_|refine zo rfl ?_|refine zs ?_|intro _));all_goals(try(conv=>whnf))
      ·rename_i e1 e2
       have e1:=of_decide_eq_true e1;rw[htd e1,Int.tmod_eq_emod_of_nonneg (by omega)] at e2
       have hin:inc t l[i]=l[i].c:=by unfold inc;rw[if_pos ⟨e1,by simpa using e2⟩]
       rw[hnx,a0T (by omega) (by omega)]
       exact hN2 (m-1) _ (by omega) ⟨i+1,acc+l[i].c,by omega,by omega,by omega,by omega,rfl⟩
      ·rename_i e1 e2
       have e1:=of_decide_eq_true e1;rw[htd e1,Int.tmod_eq_emod_of_nonneg (by omega)] at e2
       have hin:inc t l[i]=0:=by unfold inc;rw[if_neg fun h=>by rw[h.2] at e2;simp at e2]
       rw[hnx];exact hN2 (m-1) _ (by omega) ⟨i+1,acc,by omega,by omega,by omega,by omega,rfl⟩
      ·rename_i e1
       have e1:¬t≥l[i].d:=by simpa using e1
       have hin:inc t l[i]=0:=by unfold inc;rw[if_neg fun h=>e1 h.1]
       rw[hnx];exact hN2 (m-1) _ (by omega) ⟨i+1,acc,by omega,by omega,by omega,by omega,rfl⟩
     ·have hb3:=a8R (n:=(l.map eL).length) (by simpa using hlt)
      rw[List.drop_of_length_le (by omega)] at hI
      simp only[a2E] at hI;have hI:acc=a2c l t:=by omega
      subst hI
      by_cases hov:a2c l t>t
      ·have hb4:decide (a2c l t>t)=true:=decide_eq_true hov
       (repeat'((conv=>whnf);first|exact trivial|(with_reducible first|refine zX ?_|refine zP ?_|refine zL ?_)|refine⟨rfl,?_⟩|refine⟨_,rfl,?_⟩|refine⟨fun _=>?_,fun _=>?_⟩|refine zn ?_|refine zb rfl ?_|refine zX ?_|refine zo rfl ?_|refine zs ?_|intro _));all_goals(try(conv=>whnf))
       show a0r _=DV.tup [TV.p (.int .i64 (a1E l e0)),TV.p (.bool true)]
       rw[a5n ⟨ht1,hte,hov,hdone⟩]
       rfl
      ·have hb4:decide (a2c l t>t)=false:=decide_eq_false hov
       (repeat'((conv=>whnf);first|exact trivial|(with_reducible first|refine zX ?_|refine zP ?_|refine zL ?_)|refine⟨rfl,?_⟩|refine⟨_,rfl,?_⟩|refine⟨fun _=>?_,fun _=>?_⟩|refine zn ?_|refine zb rfl ?_|refine zX ?_|refine zo rfl ?_|refine zs ?_|intro _));all_goals(try(conv=>whnf))
       rw[a0T (by omega) (by omega)]
       refine hN _ _ (by omega) ⟨t+1,rfl,by omega,by omega,fun s h1 h2=>?_,?_⟩
       ·by_cases hs:s=t
        ·subst hs;omega
        ·exact hdone s h1 (by omega)
       ·have:t+1-1=t:=by omega
        rw[this];rfl
   ·have hb:decide (t<=e0)=false:=decide_eq_false hte
    (repeat'((conv=>whnf);first|exact trivial|(with_reducible first|refine zX ?_|refine zP ?_|refine zL ?_)|refine⟨rfl,?_⟩|refine⟨_,rfl,?_⟩|refine⟨fun _=>?_,fun _=>?_⟩|refine zn ?_|refine zb rfl ?_|refine zX ?_|refine zo rfl ?_|refine zs ?_|intro _));all_goals(try(conv=>whnf))
    show a0r _=DV.tup [TV.p (.int .i64 (a1E l e0)),TV.p (.bool true)]
    rw[a1f fun s h1 h2=>hdone s h1 (by omega)]
    rfl
theorem c1b(nl:Bool)(l:List Ld):a0A Tryz.prog 79 [sL nl l] (.p (.bool (a1W l))):=by
 have h1:=c1l nl l;rw[b2Q];generalize a0j l=T at *;obtain⟨e0,ok⟩:=T;refine Fn.run k79 rfl ?_;generalize Tryz.prog=P at *
 (repeat'((conv=>whnf);first|exact trivial|(with_reducible first|refine zX ?_|refine zP ?_|refine zL ?_)|refine⟨rfl,?_⟩|refine⟨_,rfl,?_⟩|refine⟨fun _=>?_,fun _=>?_⟩|refine zn ?_|refine zb rfl ?_|refine zX ?_|refine zo rfl ?_|refine zs ?_|intro _));all_goals(try(conv=>whnf))
 ·rename_i e
  exact a0J (by simp only at e;subst e;rw[Bool.true_and,Bool.eq_iff_iff];simp)
 ·rename_i e
  exact a0J (by simp only[Bool.not_true] at e;subst e;simp)
open Go.RowKit
def c2v:Fn:=⟨107,6,[.tmp 0],
 (.sr [mc 0 (.bool false)]
 (.seq
 (.gp (.reg [⟨some 12,none,.build [.int .i64 0,.int .i64 0,.int .i64 0,.int .i64 0,.sl 1 true []] [(0,1),(2,1),(3,1)],[cI 2,cI 1,cI 1]⟩,
 ⟨some 1,none,.alloc 0 5 [Z0,Z0,Z0,Z0,.ow 1 true []],[]⟩,
 ⟨none,none,.store 5,[.t 1,.t 12]⟩]) (.lay 0 5))
 (.sr [⟨some 13,none,.build [.int .i64 0,.int .i64 0,.int .i64 0] [(0,1),(1,1),(2,1)],[cI 6,cI 10,cI 10]⟩,
 ii 14 (.bsl 3 1) [.t 13],
 ⟨some 15,none,.build [.int .i64 0,.int .i64 0,.int .i64 0] [(0,1),(1,1),(2,1)],[cI 6,cI 10,cI 10]⟩,
 ii 16 (.bsl 3 1) [.t 15],
 ii 17 (.bsl 1 2) [.t 14,.t 16],
 mt 2 17]
 (.seq
 (.gp (.reg [⟨some 18,none,.build [.int .i64 0,.int .i64 0,.int .i64 0,.sl 3 true []] [(0,1),(1,1),(2,1)],[cI 5,cI 10,cI 10]⟩,
 ⟨some 3,none,.alloc 1 4 [Z0,Z0,Z0,.ow 3 true []],[]⟩,
 ⟨none,none,.store 4,[.t 3,.t 18]⟩]) (.lay 1 4))
 (.seq
 (.gp (.reg [mv 20 2,
 ii 21 (.load 4 true false) [.t 3],
 ii 22 (.call 52) [.t 20,.t 21,cI 0],
 mv 19 22,
 ii 23 (.ext 0) [.t 19],
 ii 24 (.ext 1) [.t 19],
 ⟨some 4,none,.alloc 2 2 [Z0,.ow 4 true []],[]⟩,
 ⟨none,none,.store 2,[.t 4,.t 23]⟩,
 mt 5 24]) (.lay 2 2))
 (.seq
 (.gp (.reg [ii 26 (.bsl 1 2) [.c (.ow 3 true []),.c (.ow 3 true [])],
 ii 27 (.load 4 true false) [.t 3],
 ii 28 (.call 52) [.t 26,.t 27,cI 1],
 mv 25 28,
 ii 29 (.ext 0) [.t 25],
 ii 30 (.ext 1) [.t 25],
 ⟨some 6,none,.alloc 3 2 [Z0,.ow 4 true []],[]⟩,
 ⟨none,none,.store 2,[.t 6,.t 29]⟩,
 mt 7 30]) (.lay 3 2))
 (.seq
 (.gp (.reg [ii 32 (.load 5 true false) [.t 1],
 mv 33 2,
 ii 34 (.load 4 true false) [.t 3],
 ii 35 (.call 50) [.t 32,.t 33,.t 34],
 mv 31 35,
 ii 36 (.ext 0) [.t 31],
 ii 37 (.ext 1) [.t 31],
 ⟨some 8,none,.alloc 4 2 [Z0,.ow 4 true []],[]⟩,
 ⟨none,none,.store 2,[.t 8,.t 36]⟩,
 mt 9 37]) (.lay 4 2))
 (.seq
 (.gp (.reg [ii 39 (.load 5 true false) [.t 1],
 mv 40 2,
 ⟨some 41,none,.build [.int .i64 0,.int .i64 0,.int .i64 0,.sl 3 true []] [(0,1),(1,1),(2,1)],[cI 5,cI 20,cI 20]⟩,
 ii 42 (.call 51) [.t 39,.t 40,.t 41],
 mv 38 42,
 ii 43 (.ext 0) [.t 38],
 ii 44 (.ext 1) [.t 38],
 ⟨some 10,none,.alloc 5 2 [Z0,.ow 4 true []],[]⟩,
 ⟨none,none,.store 2,[.t 10,.t 43]⟩,
 mt 11 44]) (.lay 5 2))
 (.sr [ii 45 (.call 184) [],
 mv 46 45,
 gt 47 46 (.mov false) [.t 5],
 gt 48 46 (.un .not) [.t 47],
 ii 49 .pick [.t 46,.t 48,.c (.p (.bool false))],
 mv 50 49,
 gt 51 50 (.mov false) [.t 7],
 ii 52 .pick [.t 50,.t 51,.c (.p (.bool false))],
 mv 53 52,
 gt 54 53 (.fad 0) [.t 6],
 gt 55 53 (.load 1 false false) [.t 54],
 gt 56 53 (.bin .eql) [.t 55,cI 1],
 ii 57 .pick [.t 53,.t 56,.c (.p (.bool false))],
 mv 58 57,
 gt 59 58 (.fad 1) [.t 6],
 gt 60 58 (.load 1 false false) [.t 59],
 gt 61 58 .len [.t 60],
 gt 62 58 (.bin .eql) [.t 61,cI 1],
 ii 63 .pick [.t 58,.t 62,.c (.p (.bool false))],
 mv 64 63,
 gt 65 64 (.mov false) [.t 9],
 gt 66 64 (.load 5 true false) [.t 1],
 gt 67 64 (.load 4 true false) [.t 3],
 gt 68 64 (.load 2 true false) [.t 8],
 gt 69 64 (.call 185) [.t 66,.t 67,.t 68],
 gt 70 64 (.eqb false) [.t 65,.t 69],
 ii 71 .pick [.t 64,.t 70,.c (.p (.bool false))],
 mv 72 71,
 gt 73 72 (.mov false) [.t 11],
 gt 74 72 (.load 5 true false) [.t 1],
 ⟨some 75,(some (72,true)),.build [.int .i64 0,.int .i64 0,.int .i64 0,.sl 3 true []] [(0,1),(1,1),(2,1)],[cI 5,cI 20,cI 20]⟩,
 gt 76 72 (.load 2 true false) [.t 10],
 gt 77 72 (.call 185) [.t 74,.t 75,.t 76],
 gt 78 72 (.eqb false) [.t 73,.t 77],
 ii 79 .pick [.t 72,.t 78,.c (.p (.bool false))],
 mv 80 79,
 gt 81 80 (.load 5 true false) [.t 1],
 gt 82 80 (.load 4 true false) [.t 3],
 gt 83 80 (.call 82) [.t 81,.t 82,cI 2],
 gt 84 80 (.bin .eql) [.t 83,cI 4],
 ii 85 .pick [.t 80,.t 84,.c (.p (.bool false))],
 mv 86 85,
 gt 87 86 (.load 2 true false) [.t 6],
 gt 88 86 (.call 186) [.t 87],
 gt 89 86 (.bin .eql) [.t 88,cI 5],
 ii 90 .pick [.t 86,.t 89,.c (.p (.bool false))],
 mv 91 90,
 gt 92 91 (.load 2 true false) [.t 6],
 gt 93 91 (.call 26) [.t 92,cI 0,cI 7],
 gt 94 91 (.bin .eql) [.t 93,cI 17],
 ii 95 .pick [.t 91,.t 94,.c (.p (.bool false))],
 mv 96 95,
 gt 97 96 (.load 2 true false) [.t 6],
 gt 98 96 (.load 2 true false) [.t 6],
 gt 99 96 (.call 187) [.t 97,.t 98],
 ii 100 .pick [.t 96,.t 99,.c (.p (.bool false))],
 mv 101 100,
 gt 102 101 (.mov false) [.t 2],
 ⟨some 103,(some (101,true)),.build [.int .i64 0,.int .i64 0,.int .i64 0] [(0,1),(1,1),(2,1)],[cI 1,cI 10,cI 10]⟩,
 gt 104 101 (.call 86) [.t 102,.t 103],
 gt 105 101 (.bin .eql) [.t 104,cI 0],
 ii 106 .pick [.t 101,.t 105,.c (.p (.bool false))],
 mt 0 106]
 .ret)))))))))⟩
theorem c7u:a0H Tryz.prog 155 c2v=true:=by kernel_rfl
def F16:Fn:=⟨10,2,[.cell 2 5],
 (.sr [ii 1 (.box 0 5) [.t 0],
 ⟨some 2,none,.alloc 1 5 [Z0,Z0,Z0,Z0,.ow 1 true []],[]⟩]
 (.seq
 (.seq
 (.gp (.reg [ii 3 (.load 5 true false) [.t 1],
 ii 4 (.call 45) [.t 3],
 ⟨none,none,.store 5,[.t 1,.t 4]⟩]) (.lay 0 5))
 (.sr [ii 5 (.load 5 true false) [.t 1],
 ii 6 (.call 46) [.t 5]]
 (.cond (.t 6)
 (.seq
 (.gp (.reg [ii 7 (.load 5 true false) [.t 1],
 ⟨none,none,.store 5,[.t 2,.t 7]⟩]) (.lay 1 5))
 .ret)
 .skip)))
 (.seq
 (.gp (.reg [ii 8 (.bsl 1 1) [cI 0],
 ⟨some 9,none,.build [.int .i64 0,.int .i64 0,.int .i64 0,.int .i64 0,.sl 1 true []] [(0,1),(1,1),(2,1),(3,1),(4,1)],[cI 2,cI 1,cI 1,cI 1,.t 8]⟩,
 ⟨none,none,.store 5,[.t 2,.t 9]⟩]) (.lay 1 5))
 .ret)))⟩
theorem k16:a0H Tryz.prog 16 F16=true:=by kernel_rfl
def F49:Fn:=⟨35,2,[.tmp 4],
 (.sr [ii 2 (.box 0 5) [.t 0],
 ii 4 (.mov true) [.c (.ow 1 true [])]]
 (.sr [fa 8 0 2,
 ld 9 8,
 ⟨some 10,none,.mksl 1 1 24 false [.ow 3 true []],[.t 9,.t 9]⟩,
 mt 5 10]
 (.seq
 (.sr [mc 6 (.int .i64 0)]
 (.block 0
 (.loop [0,4,7,8,9,10,11,12,13,14,15,16,17,18,19,20,21,22,23,24,25,26,27,28,29,30,31,32,33,34] []
 (.seq
 (.sr [mv 11 6,
 fa 12 0 2,
 ld 13 12,
 b2 14 .lss 11 13,
 mv 15 14,
 gt 16 15 (.mov false) [.t 6],
 gt 17 15 (.mov false) [.t 1],
 gt 18 15 .len [.t 17],
 gt 19 15 (.bin .lss) [.t 16,.t 18],
 ii 20 .pick [.t 15,.t 19,.c (.p (.bool false))]]
 (.cond (.t 20)
 .skip
 (.exit 0)))
 (.seq
 (.block 1
 (.sr [mv 23 1,
 mv 24 6,
 ii 25 (.iad 1) [.t 23,.t 24],
 ld 26 25,
 ii 27 (.call 78) [.t 26],
 mt 7 27]
 (.sr [mv 28 7,
 ii 29 (.call 79) [.t 28]]
 (.cond (.t 29)
 (.reg [mv 30 5,
 mv 31 6,
 mv 32 7,
 ii 33 (.iad 1) [.t 30,.t 31],
 ⟨none,none,.store 1,[.t 33,.t 32]⟩])
 .skip))))
 (.reg [mv 21 6,
 b1 22 .add 21 (.int .i64 1),
 mt 6 22]))))))
 (.sr [mv 34 5,
 mt 4 34]
 (.pre [] [1] [] .ret)))))⟩
theorem k49:a0H Tryz.prog 49 F49=true:=by kernel_rfl
def F17:Fn:=⟨12,3,[.cell 4 4,.tmp 5],
 (.sr [ii 2 (.box 0 5) [.t 0],
 ii 3 (.box 1 4) [.t 1],
 ⟨some 4,none,.alloc 2 4 [Z0,Z0,Z0,.ow 3 true []],[]⟩,
 mc 5 (.bool false)]
 (.seq
 (.gp (.reg [ii 6 (.load 4 true false) [.t 3],
 ii 7 (.call 47) [.t 6],
 ⟨none,none,.store 4,[.t 3,.t 7]⟩]) (.lay 1 4))
 (.seq
 (.gp (.regd [ii 8 (.at 1 (.load 4 true false)) [.t 3],
 ii 9 (.at 0 (.load 5 true false)) [.t 2],
 ii 10 (.at 1 (.load 4 true false)) [.t 3],
 ii 11 (.pl (.call 48)) [.t 9,.t 10],
 ⟨none,none,.at 2 (.store 4),[.t 4,.t 8]⟩,
 mt 5 11]) (.lay 2 4))
 .ret)))⟩
theorem k17:a0H Tryz.prog 17 F17=true:=by kernel_rfl
def F52:Fn:=⟨31,2,[.cell 6 2,.tmp 7],
 (.sr [ii 4 (.box 0 4) [.t 1],
 ⟨some 6,none,.alloc 1 2 [Z0,.ow 4 true []],[]⟩,
 mc 7 (.bool false)]
 (.sr [mv 9 0,
 fa 10 0 4,
 ld 11 10,
 mv 12 2,
 b2 13 .add 11 12,
 fa 14 1 4,
 ld 15 14,
 fa 16 2 4,
 ld 17 16,
 ⟨some 18,none,.build [.int .i64 0,.int .i64 0,.int .i64 0] [(0,1),(1,1),(2,1)],[.t 13,.t 15,.t 17]⟩,
 ii 19 (.call 86) [.t 9,.t 18],
 mt 8 19]
 (.seq
 (.sr [mv 20 8,
 b1 21 .lss 20 (.int .i64 0)]
 (.cond (.t 21)
 (.seq
 (.gp (.reg [⟨some 22,none,.build [.int .i64 0,.sl 4 true []] [],[]⟩,
 ⟨none,none,.store 2,[.t 6,.t 22]⟩,
 mc 7 (.bool false)]) (.lay 1 2))
 .ret)
 .skip))
 (.seq
 (.gp (.reg [mv 23 8,
 fa 24 1 4,
 ld 25 24,
 fa 26 0 4,
 ld 27 26,
 ⟨some 28,none,.build [.int .i64 0,.int .i64 0,.int .i64 0,.int .i64 0] [(0,1),(2,1),(3,1)],[.t 23,.t 25,.t 27]⟩,
 ii 29 (.bsl 4 1) [.t 28],
 ⟨some 30,none,.build [.int .i64 0,.sl 4 true []] [(0,1),(1,1)],[cI 1,.t 29]⟩,
 ⟨none,none,.store 2,[.t 6,.t 30]⟩,
 mc 7 (.bool true)]) (.lay 1 2))
 .ret))))⟩
theorem k52:a0H Tryz.prog 52 F52=true:=by kernel_rfl
def F86:Fn:=⟨8,1,[.tmp 4],
 (.sr [ii 3 (.box 0 3) [.t 1],
 mc 4 (.int .i64 0)]
 (.seq
 (.pre [] [0] [] (.reg [mv 5 0,
 ii 6 (.mkfn 139) [.t 3],
 ii 7 (.call 138) [.t 5,.t 6],
 mt 4 7]))
 .ret))⟩
theorem k86:a0H Tryz.prog 86 F86=true:=by kernel_rfl
end Go.Proofs.YtnjphclbpgajpaaGreatDoor.Vc
namespace Go.Proofs.YtnjphclbpgajpaaGreatDoor.Ma
def a1V{α:Type}(lt : α -> α->Bool)(e : α):List α->List α
 |[]=>[e]
 |b ::bs=>if lt e b then b ::a1V lt e bs else e ::b ::bs
def a5S{α:Type}(lt : α -> α->Bool)(l:List α):List α:=l.foldl (fun acc e=>a1V lt e acc) []
def a0w{α:Type}(lt : α -> α->Bool)(l:List α):List α:=(a5S lt l).reverse
theorem a3w{α:Type}(lt : α -> α->Bool)(e : α)(l:List α):(a1V lt e l).Perm (e ::l):=by
 induction l with
 |nil=>exact .refl _
 |cons b bs ih=>
  simp only[a1V]
  split
  ·exact(ih.cons b).trans (.swap e b bs)
  ·exact .refl _
theorem a9t{α:Type}(lt : α -> α->Bool)(l:List α)(e : α):a5S lt (l++[e])=a1V lt e (a5S lt l):=by
 simp[a5S,List.foldl_append]
theorem a7a{α:Type}(lt : α -> α->Bool)(l:List α):(a5S lt l).Perm l:=by
 suffices ∀(l acc:List α),(l.foldl (fun acc e=>a1V lt e acc) acc).Perm (acc++l) by simpa [a5S] using this l []
 intro l
 induction l with
 |nil=>intro acc;simp
 |cons e es ih=>
  intro acc;simp only[List.foldl_cons];refine(ih _).trans ?_;refine((a3w lt e acc).append_right es).trans ?_;exact List.perm_middle.symm
theorem a1Q{α:Type}(lt : α -> α->Bool)(l:List α):(a0w lt l).Perm l:=(List.reverse_perm _).trans (a7a lt l)
theorem a1U{α:Type}(lt : α -> α->Bool)(l:List α):(a0w lt l).length=l.length:=(a1Q lt l).length_eq
theorem a7v{α:Type}{lt : α -> α->Bool}{r : α -> α->Prop}(e : α)(htr:∀a b c,r a b->r b c->r a c) :
  ∀(l:List α),(∀b,b∈l->(lt e b=true->r e b)/\(lt e b=false->r b e))->l.Pairwise (fun a b=>r b a)->(a1V lt e l).Pairwise fun a b=>r b a:=by
 intro l
 induction l with
 |nil=>intro _ _;simp[a1V]
 |cons b bs ih=>
  intro he hp;rw[List.pairwise_cons] at hp;simp only[a1V]
  split
  ·rename_i h
   rw[List.pairwise_cons];refine⟨fun x hx=>?_,ih (fun y hy=>he y (List.mem_cons_of_mem _ hy)) hp.2⟩
   rcases List.mem_cons.1 ((a3w lt e bs).mem_iff.1 hx) with rfl|hx
   ·exact(he b (List.mem_cons_self ..)).1 h
   ·exact hp.1 x hx
  ·rename_i h
   have hb:=(he b (List.mem_cons_self ..)).2 (by simpa using h)
   rw[List.pairwise_cons];refine⟨fun x hx=>?_,List.pairwise_cons.2 hp⟩
   rcases List.mem_cons.1 hx with rfl|hx
   ·exact hb
   ·exact htr _ _ _ (hp.1 x hx) hb
theorem a5E{α:Type}{lt : α -> α->Bool}{r : α -> α->Prop}(htr:∀a b c,r a b->r b c->r a c)(l:List α)
  (h:l.Pairwise fun a b=>(lt b a=true->r b a)/\(lt b a=false->r a b)):(a0w lt l).Pairwise r:=by
 unfold a0w;rw[List.pairwise_reverse]
 suffices ∀(l acc:List α),acc.Pairwise (fun a b=>r b a)->(∀a,a∈acc->∀b,b∈l->(lt b a=true->r b a)/\(lt b a=false->r a b)) ->
   l.Pairwise (fun a b=>(lt b a=true->r b a)/\(lt b a=false->r a b))->(l.foldl (fun acc e=>a1V lt e acc) acc).Pairwise fun a b=>r b a from this l [] List.Pairwise.nil (fun a h=>by cases h) h
 intro l
 induction l with
 |nil=>intro acc h _ _;exact h
 |cons e es ih=>
  intro acc hacc h1 h2;rw[List.pairwise_cons] at h2;simp only[List.foldl_cons];refine ih _ (a7v e htr acc (fun b hb=>h1 b hb e (List.mem_cons_self ..)) hacc) (fun a ha b hb=>?_) h2.2
  rcases List.mem_cons.1 ((a3w lt e acc).mem_iff.1 ha) with rfl|ha
  ·exact h2.1 b hb
  ·exact h1 a ha b (List.mem_cons_of_mem _ hb)
structure Place where
 core:Int
 x:Int
deriving DecidableEq
def Place.ahead(a b:Place):Prop:=b.x<a.x\/(a.x=b.x/\a.core<b.core)
theorem b0p(a b c:Place)(h1:a.ahead b)(h2:b.ahead c):a.ahead c:=by unfold Place.ahead at *;omega
theorem a9z(a:Place):¬a.ahead a:=by unfold Place.ahead;omega
theorem b3J(a b:Place)(h:a.ahead b):¬b.ahead a:=by unfold Place.ahead at *;omega
def ltX(a b:Place):Bool:=decide (b.x<a.x)
def ltC(a b:Place):Bool:=decide (a.core<b.core)
theorem c2h(l:List Place)(h:l.Pairwise fun a b=>a.core<b.core):(a0w ltX l).Pairwise Place.ahead:=by
 refine a5E b0p l (h.imp fun {a b} hab=>⟨fun h=>?_,fun h=>?_⟩)
 ·simp only[ltX,decide_eq_true_eq] at h;exact .inl h
 ·simp only[ltX,decide_eq_false_iff_not] at h;unfold Place.ahead;omega
theorem c3E(l:List Place)(h:l.Pairwise fun a b=>a.core≠b.core):(a0w ltC l).Pairwise fun a b=>a.core<b.core:=by
 refine a5E (fun a b c h1 h2=>by omega) l (h.imp fun {a b} hab=>⟨fun h=>?_,fun h=>?_⟩)
 ·simpa [ltC] using h
 ·simp only[ltC,decide_eq_false_iff_not] at h;omega
def a1b(l:List Place)(n:Nat):List Place:=if l.length<n then [] else a0w ltC ((a0w ltX l).take n)
theorem b0C{l:List Place}{n:Nat}{p:Place}(h:p∈a1b l n):p∈l:=by
 unfold a1b at h
 split at h
 ·cases h
 ·exact(a1Q _ _).mem_iff.1 (List.mem_of_mem_take ((a1Q _ _).mem_iff.1 h))
theorem c3L{l:List Place}(h:l.Pairwise fun a b=>a.core<b.core):l.Pairwise fun a b=>a.core≠b.core:=h.imp fun hab=>by omega
theorem b8I{l:List Place}(h:l.Pairwise fun a b=>a.core<b.core)(n:Nat):((a0w ltX l).take n).Pairwise fun a b=>a.core≠b.core:=by
 have h1:(a0w ltX l).Pairwise fun a b=>a.core≠b.core:=((a1Q ltX l).pairwise_iff (fun {a b} h=>Ne.symm h)).2 (c3L h)
 exact h1.sublist (List.take_sublist _ _)
theorem a5D{l:List Place}{n:Nat}(h:l.Pairwise fun a b=>a.core<b.core):(a1b l n).Pairwise fun a b=>a.core<b.core:=by
 unfold a1b
 split
 ·exact List.Pairwise.nil
 ·exact c3E _ (b8I h n)
theorem a1s{l:List Place}{n:Nat}:(a1b l n).length=if l.length<n then 0 else n:=by
 unfold a1b
 split
 ·rfl
 ·rw[a1U,List.length_take,a1U];omega
def a0Q(move:Int):Int->List Int->List Place
 |_,[]=>[]
 |k,x ::xs=>if move<x then ⟨k,x⟩ ::a0Q move (k+1) xs else a0Q move (k+1) xs
def places(move:Int)(xs:List Int):List Place:=a0Q move 0 xs
theorem a3k{move:Int}{xs:List Int}:∀{k:Int} {p:Place},p∈a0Q move k xs↔k<=p.core/\xs[(p.core-k).toNat]?=some p.x/\move<p.x:=by
 induction xs with
 |nil=>intro k p;simp[a0Q]
 |cons x xs ih=>
  intro k p
  have key:(k+1<=p.core/\xs[(p.core-(k+1)).toNat]?=some p.x/\move<p.x)↔(k<=p.core/\p.core≠k/\(x ::xs)[(p.core-k).toNat]?=some p.x/\move<p.x):=by
   by_cases hk:k+1<=p.core
   ·have e:(p.core-k).toNat=(p.core-(k+1)).toNat+1:=by omega
    rw[e,List.getElem?_cons_succ]
    constructor
    ·exact fun ⟨_,h2,h3⟩=>⟨by omega,by omega,h2,h3⟩
    ·exact fun ⟨_,_,h2,h3⟩=>⟨hk,h2,h3⟩
   ·constructor
    ·exact fun h=>absurd h.1 hk
    ·exact fun h=>absurd h.2.1 (by omega)
  have hd:p.core=k->((x ::xs)[(p.core-k).toNat]?=some p.x↔p=⟨k,x⟩):=by
   intro e;have e0:(p.core-k).toNat=0:=by omega
   rw[e0,List.getElem?_cons_zero];cases p
   simp only[sIj,Place.mk.injEq] at *
   constructor
   ·exact fun h=>⟨e,h.symm⟩
   ·exact fun h=>h.2.symm
  simp only[a0Q]
  split
  ·rename_i hx
   rw[List.mem_cons,ih,key]
   constructor
   ·rintro(rfl|h)
    ·exact⟨Int.le_refl _,by simp,hx⟩
    ·exact⟨h.1,h.2.2.1,h.2.2.2⟩
   ·rintro⟨h1,h2,h3⟩
    by_cases e:p.core=k
    ·exact .inl ((hd e).1 h2)
    ·exact .inr ⟨h1,e,h2,h3⟩
  ·rename_i hx
   rw[ih,key]
   constructor
   ·exact fun h=>⟨h.1,h.2.2.1,h.2.2.2⟩
   ·rintro⟨h1,h2,h3⟩
    refine⟨h1,fun e=>?_,h2,h3⟩
    have:=(hd e).1 h2;subst this;exact hx h3
theorem a4g{move:Int}{xs:List Int}:∀{k:Int},(a0Q move k xs).Pairwise fun a b=>a.core<b.core:=by
 induction xs with
 |nil=>exact List.Pairwise.nil
 |cons x xs ih=>
  intro k;simp only[a0Q]
  split
  ·refine List.pairwise_cons.2 ⟨fun p hp=>?_,ih⟩
   have:=(a3k.1 hp).1;simp only;omega
  ·exact ih
theorem a4s{move:Int}{xs:List Int}{p:Place}:p∈places move xs↔0<=p.core/\xs[p.core.toNat]?=some p.x/\move<p.x:=by
 unfold places;rw[a3k];simp
theorem a2g{move:Int}{xs:List Int}:(places move xs).Pairwise fun a b=>a.core<b.core:=a4g
theorem a4r{move:Int}(xs:List Int)(x:Int):∀k:Int,a0Q move k (xs++[x])=a0Q move k xs++if move<x then [⟨k+xs.length,x⟩] else []:=by
 induction xs with
 |nil=>intro k;simp only[List.nil_append,a0Q];split<;>simp
 |cons y ys ih=>
  intro k;simp only[List.cons_append,a0Q,ih];have e:k+1+(ys.length:Int)=k+((y ::ys).length:Int):=by simp;omega
  rw[e]
  split<;>simp
theorem a0u{move:Int}(xs:List Int):∀k:Int,(a0Q move k xs).length<=xs.length:=by
 induction xs with
 |nil=>intro k;simp[a0Q]
 |cons y ys ih=>intro k;simp only[a0Q];have:=ih (k+1);split<;>simp<;>omega
theorem b6t:∀(l m:List Int),l.Pairwise (· < ·)->m.Pairwise (· < ·)->(∀x,x∈l↔x∈m)->l=m:=by
 intro l
 induction l with
 |nil=>
  intro m _ _ h
  cases m with
  |nil=>rfl
  |cons b m=>exact absurd ((h b).2 (List.mem_cons_self ..)) (by simp)
 |cons a l ih=>
  intro m hl hm h
  cases m with
  |nil=>exact absurd ((h a).1 (List.mem_cons_self ..)) (by simp)
  |cons b m=>
   rw[List.pairwise_cons] at hl hm
   have hab:a=b:=by
    rcases List.mem_cons.1 ((h a).1 (List.mem_cons_self ..)) with e|ha
    ·exact e
    ·rcases List.mem_cons.1 ((h b).2 (List.mem_cons_self ..)) with e|hb
     ·exact e.symm
     ·have:=hl.1 b hb;have:=hm.1 a ha;omega
   subst hab;rw[ih m hl.2 hm.2 fun x=>?_]
   constructor
   ·intro hx
    rcases List.mem_cons.1 ((h x).1 (List.mem_cons_of_mem _ hx)) with e|h'
    ·have:=hl.1 x hx;omega
    ·exact h'
   ·intro hx
    rcases List.mem_cons.1 ((h x).2 (List.mem_cons_of_mem _ hx)) with e|h'
    ·have:=hm.1 x hx;omega
    ·exact h'
section greedy
variable {l:List Place}
theorem b0P{L:List Place}(h:L.Pairwise Place.ahead){i:Nat}{p:Place}(hp:p∈L)(hn:p∉L.take i)(ha:∀q,q∈L->q∉L.take i->q≠p->p.ahead q):L[i]?=some p:=by
 obtain⟨j,hj,e⟩:=List.mem_iff_getElem.1 hp
 have hij:i<=j:=by
  refine Nat.le_of_not_lt fun hlt=>hn ?_
  rw[<-e];exact List.mem_iff_getElem.2 ⟨j,by simp;omega,by simp⟩
 have hi:i<L.length:=by omega
 by_cases hji:j=i
 ·subst hji;rw[List.getElem?_eq_getElem hj,e]
 ·have h1:=List.pairwise_iff_getElem.1 h i j hi hj (by omega)
  rw[e] at h1
  have h2:L[i]∉L.take i:=by
   intro hm;obtain⟨k,hk,ek⟩:=List.mem_iff_getElem.1 hm;rw[List.getElem_take] at ek;have:=List.pairwise_iff_getElem.1 h k i (by simp at hk;omega) hi (by simp at hk;omega)
   rw[ek] at this;exact a9z _ this
  have h3:=ha L[i] (List.getElem_mem _) h2 (fun e'=>by rw[e'] at h1;exact a9z _ h1)
  exact absurd h1 (b3J _ _ h3)
end greedy
structure Pc where
 core:Int
 off:Int
 len:Int
 c:Int
deriving DecidableEq
def a0S(lag w move:Int):Int->Int->List Place->List Pc×Int
 |left,_,[]=>([],left)
 |left,k,p ::ps=>if left=0 then ([],left) else
   let mv:=if k=0 then 0 else move
   let use:=min (p.x-mv) left
   let r:=a0S lag w move (left-use) (k+1) ps
   (⟨p.core,k*(w+lag),w,mv+use⟩ ::r.1,r.2)
noncomputable def a2d (lag move C D T:Int) (ls:List (List Ld)):Nat->Nat->List Pc
 |0,_=>[]
 |fuel+1,n=>let w:=a1d D lag n
  if w=0 then [] else
   let r:=a0S lag w move C 0 (a1b (places move (ls.map fun l=>a1m l w T w)) n)
   if r.2=0/\1<r.1.length then r.1 else a2d lag move C D T ls fuel (n+1)
def Pc.ok(cores:Int)(p:Pc):Bool:=decide (0<=p.core)&&decide (p.core<cores)&&(decide (0<=p.off)&&decide (p.off<=200))&&(decide (1<=p.c)&&decide (p.c<=p.len)&&decide (p.off+p.len<=200))
theorem Pc.ok_iff{cores:Int}{p:Pc}:p.ok cores=true↔(0<=p.core/\p.core<cores)/\(0<=p.off/\p.off<=200)/\1<=p.c/\p.c<=p.len/\p.off+p.len<=200:=by
 simp[Pc.ok,and_assoc]
def a8K:List Pc->Int
 |[]=>0
 |p ::ps=>p.c+a8K ps
theorem b1T(a b:List Pc):a8K (a++b)=a8K a+a8K b:=by
 induction a with
 |nil=>simp[a8K]
 |cons x xs ih=>simp only[List.cons_append,a8K,ih];omega
def a7o(lag move:Int):List Pc->Prop
 |a ::b ::ps=>(a.off+a.len+lag<=b.off/\move<b.c)/\a7o lag move (b ::ps)
 |_=>True
def a6V:List Pc->Int
 |[]=>0
 |[p]=>p.off+p.len
 |_ ::p ::ps=>a6V (p ::ps)
def a2e:List Pc->Int
 |[]=>0
 |p ::_=>p.off
def c1d(D:Int)(nsec:Nat)(kind:Int)(ps:List Pc):Prop :=
 (kind=1/\∃p,ps=[p]/\p.len=D)\/(kind=2/\2<=ps.length/\nsec=0)\/(kind=3/\nsec=0/\∃p q,ps=[p,q]/\p.len=p.c)
structure PlanOk (cores lag move C D:Int) (nsec:Nat) (kind:Int) (ps:List Pc):Prop where
 pcs:∀p,p∈ps->p.ok cores=true
 apart:ps.Pairwise fun a b=>a.core≠b.core
 one:ps≠[]
 first:a2e ps=0
 next:a7o lag move ps
 sum:a8K ps=C+(ps.length-1:Int)*move
 last:a6V ps<=D
 kind:c1d D nsec kind ps
open Classical in
noncomputable def b6G (cores lag move C D:Int) (nsec:Nat) (kind:Int) (ps:List Pc):Bool:=decide (PlanOk cores lag move C D nsec kind ps)
theorem a4V{cores lag move C D:Int}{nsec:Nat}{kind:Int}{ps:List Pc}:b6G cores lag move C D nsec kind ps=true↔PlanOk cores lag move C D nsec kind ps:=by simp[b6G]
structure Lim (cores lag move C D T:Int):Prop where
 c1:1<=cores
 c2:cores<=6
 l1:0<=lag
 l2:lag<=5
 m1:0<=move
 m2:move<=5
 C1:1<=C
 CD:C<=D
 DT:D<=T
 T2:T<=200
variable {cores lag move C D T:Int}
theorem a6U{n:Int}(hs:a1d D lag n≠0):1<=n/\1<=a1d D lag n/\n*a1d D lag n+(n-1)*lag<=D/\D<n*a1d D lag n+(n-1)*lag+n:=by
 unfold a1d at *
 split at hs
 ·exact absurd rfl hs
 ·rename_i hc
  rw[if_neg hc];have h1:=Int.mul_ediv_add_emod (D-(n-1)*lag) n;have h2:=Int.emod_lt_of_pos (D-(n-1)*lag) (show 0<n by omega)
  have h3:=Int.emod_nonneg (D-(n-1)*lag) (show n≠0 by omega)
  have h4:1<=(D-(n-1)*lag)/n:=Int.le_ediv_of_mul_le (by omega) (by omega)
  omega
theorem a9s(lag w move:Int)(hm:0<=move):∀(ps:List Place) (left k:Int),0<=left->0<=k->(∀p,p∈ps->move<p.x) ->
  0<=(a0S lag w move left k ps).2/\(a0S lag w move left k ps).2<=left/\(a0S lag w move left k ps).1.length<=ps.length /\
  (∀(i:Nat) q,(a0S lag w move left k ps).1[i]?=some q->∃p,ps[i]?=some p/\q.core=p.core/\q.off=(k+i)*(w+lag)/\q.len=w/\1<=q.c/\q.c<=p.x/\(0<k+i->move<q.c)) /\
  a8K (a0S lag w move left k ps).1=left-(a0S lag w move left k ps).2+((a0S lag w move left k ps).1.length:Int)*move-(if k=0/\(a0S lag w move left k ps).1≠[] then move else 0):=by
 intro ps
 induction ps with
 |nil=>intro left k h1 _ _;simp[a0S,a8K];omega
 |cons p ps ih=>
  intro left k h1 hk hx;unfold a0S
  split
  ·rename_i h;simp[a8K];omega
  ·rename_i hne
   have hp:=hx p (List.mem_cons_self ..);simp only;generalize hmv:(if k=0 then (0:Int) else move)=mv
   have hmv':mv<=move/\0<=mv/\(k≠0->mv=move)/\(k=0->mv=0):=by subst hmv;split<;>omega
   obtain⟨i1,i2,i3,i4,i5⟩:=ih (left-min (p.x-mv) left) (k+1) (by omega) (by omega) fun q hq=>hx q (List.mem_cons_of_mem _ hq)
   refine⟨i1,by omega,by simp;omega,fun i q hq=>?_,?_⟩
   ·cases i with
    |zero=>
     simp only[List.getElem?_cons_zero,sIj] at hq;subst hq;exact⟨p,rfl,rfl,by simp,rfl,by simp only;omega,by simp only;omega,fun hk0=>by simp only;simp at hk0;have:=hmv'.2.2.1 (by omega);omega⟩
    |succ i=>
     rw[List.getElem?_cons_succ] at hq;obtain⟨p',h1,h2,h3,h4⟩:=i4 i q hq;refine⟨p',by simpa using h1,h2,?_,?_⟩
     ·rw[h3];congr 1;simp;omega
     ·have e:k+((i+1:Nat):Int)=k+1+(i:Int):=by simp;omega
      rw[e];exact h4
   ·simp only[a8K,i5,List.length_cons,Int.natCast_succ,Int.add_mul,Int.one_mul]
    have e1:¬(k+1=0/\(a0S lag w move (left-min (p.x-mv) left) (k+1) ps).1≠[]):=by omega
    rw[if_neg e1]
    by_cases hk0:k=0
    ·rw[if_pos ⟨hk0,by simp⟩];have:=hmv'.2.2.2 hk0;omega
    ·rw[if_neg fun h=>hk0 h.1];have:=hmv'.2.2.1 hk0;omega
structure WinOk (lag move C D T:Int) (ls:List (List Ld)) (ps:List Pc) (w:Int):Prop where
 w1:1<=w
 two:2<=ps.length
 le:ps.length<=ls.length
 time:(ps.length:Int)*w+(ps.length-1:Int)*lag<=D
 sum:a8K ps=C+(ps.length-1:Int)*move
 asc:ps.Pairwise fun a b=>a.core<b.core
 each:∀(i:Nat) q,ps[i]?=some q->q.off=(i:Int)*(w+lag)/\q.len=w/\1<=q.c/\q.c<=w/\(0<i->move<q.c)/\0<=q.core/\∃l,ls[q.core.toNat]?=some l/\a6i l q.c w T=true
theorem getElem?_lt{α:Type}{l:List α}{i:Nat}{x : α}(h:l[i]?=some x):i<l.length:=(gSi.1 h).1
theorem b5o(hl:0<=lag)(hm:0<=move)(hC:1<=C){ls:List (List Ld)}{n:Nat}(hs:a1d D lag n≠0)(hr:(a0S lag (a1d D lag n) move C 0 (a1b (places move (ls.map fun l=>a1m l (a1d D lag n) T (a1d D lag n))) n)).2=0/\1<(a0S lag (a1d D lag n) move C 0 (a1b (places move (ls.map fun l=>a1m l (a1d D lag n) T (a1d D lag n))) n)).1.length) :
  WinOk lag move C D T ls (a0S lag (a1d D lag n) move C 0 (a1b (places move (ls.map fun l=>a1m l (a1d D lag n) T (a1d D lag n))) n)).1 (a1d D lag n):=by
 obtain⟨s1,s2,s3,s4⟩:=a6U hs;generalize a1d D lag n=w at *;generalize hb:a1b (places move (ls.map fun l=>a1m l w T w)) n=b at *
 have hmem:∀p,p∈b->0<=p.core/\(ls.map fun l=>a1m l w T w)[p.core.toNat]?=some p.x/\move<p.x:=fun p hp=>by
  subst hb;exact a4s.1 (b0C hp)
 have hsort:b.Pairwise fun a b=>a.core<b.core:=by subst hb;exact a5D a2g
 have hlen:b.length<=n:=by subst hb;rw[a1s];split<;>omega
 have hlen2:b.length<=ls.length:=by
  have h0:(places move (ls.map fun l=>a1m l w T w)).length<=ls.length:=by
   have:=a0u (move:=move) (ls.map fun l=>a1m l w T w) 0
   simpa [places] using this
  subst hb;rw[a1s];split<;>omega
 obtain⟨i1,i2,i3,i4,i5⟩:=a9s lag w move hm b C 0 (by omega) (by omega) fun p hp=>(hmem p hp).2.2
 generalize hps:a0S lag w move C 0 b=r at *;obtain⟨ps,left⟩:=r;simp only at *;obtain⟨rfl,hr⟩:=hr;refine⟨s2,by omega,by omega,?_,?_,?_,fun i q hq=>?_⟩
 ·have h1:(ps.length:Int)<=n:=by omega
  have h2:(ps.length:Int)*w<=n*w:=Int.mul_le_mul_of_nonneg_right h1 (by omega)
  have h3:(ps.length-1:Int)*lag<=(n-1:Int)*lag:=Int.mul_le_mul_of_nonneg_right (by omega) hl
  omega
 ·rw[i5,if_pos ⟨trivial,fun e=>by subst e;simp at hr⟩,Int.sub_mul];omega
 ·rw[List.pairwise_iff_getElem]
  intro i j hi hj hij;obtain⟨p,h1,h2,_⟩:=i4 i ps[i] (List.getElem?_eq_getElem hi);obtain⟨q,k1,k2,_⟩:=i4 j ps[j] (List.getElem?_eq_getElem hj);obtain⟨h3,e1⟩:=gSi.1 h1;obtain⟨k3,e2⟩:=gSi.1 k1;have:=List.pairwise_iff_getElem.1 hsort i j h3 k3 hij;rw[h2,k2, <-e1, <-e2];exact this
 ·obtain⟨p,h1,h2,h3,h4,h5,h6,h7⟩:=i4 i q hq
  obtain⟨m1,m2,m3⟩:=hmem p (mGe h1);rw[List.getElem?_map] at m2
  cases hl':ls[p.core.toNat]? with
  |none=>rw[hl'] at m2;simp at m2
  |some l=>
   rw[hl'] at m2;simp only[Option.map_some,sIj] at m2;have hb':=(a6B l w T w).2 (by omega)
   rw[m2] at hb';refine⟨by simpa using h3,h4,h5,by omega,fun hi=>h7 (by omega),by omega,l,by rw[h2];exact hl',a9q hb'.2.2 h5 h6⟩
theorem a9A(hl:0<=lag)(hm:0<=move)(hC:1<=C){ls:List (List Ld)}:∀(fuel n:Nat),a2d lag move C D T ls fuel n≠[]->∃w,WinOk lag move C D T ls (a2d lag move C D T ls fuel n) w:=by
 intro fuel
 induction fuel with
 |zero=>intro n h;exact absurd rfl h
 |succ fuel ih=>
  intro n h;simp only[a2d] at h ⊢
  split at h
  ·exact absurd rfl h
  ·rename_i hs
   rw[if_neg hs]
   split at h
   ·rename_i hr;rw[if_pos hr];exact⟨_,b5o hl hm hC hs hr⟩
   ·rename_i hr;rw[if_neg hr];exact ih _ h
theorem b6W{lag move:Int}:∀{ps:List Pc},(∀(i:Nat) a b,ps[i]?=some a->ps[i+1]?=some b->a.off+a.len+lag<=b.off/\move<b.c)->a7o lag move ps:=by
 intro ps
 induction ps with
 |nil=>exact fun _=>trivial
 |cons a ps ih=>
  intro h
  cases ps with
  |nil=>trivial
  |cons b ps=>exact⟨h 0 a b rfl rfl,ih fun i x y h1 h2=>h (i+1) x y (by simpa using h1) (by simpa using h2)⟩
theorem b2u:∀{ps:List Pc} {q:Pc},ps[ps.length-1]?=some q->a6V ps=q.off+q.len:=by
 intro ps
 induction ps with
 |nil=>intro q h;simp at h
 |cons a ps ih=>
  intro q h
  cases ps with
  |nil=>simp only[List.length_cons,List.length_nil,Nat.zero_add,Nat.sub_self,List.getElem?_cons_zero,sIj] at h;subst h;rfl
  |cons b ps=>exact ih (by simpa using h)
theorem WinOk.plan{ls:List (List Ld)}{ps:List Pc}{w:Int}(h:WinOk lag move C D T ls ps w)(hL:Lim cores lag move C D T)(hls:(ls.length:Int)=cores):PlanOk cores lag move C D 0 2 ps:=by
 have hne:ps≠[]:=fun e=>by have:=h.two;subst e;simp at this
 have htwo:=h.two
 have hlast:∀i:Nat,i<ps.length->(i:Int)*(w+lag)+w<=D:=fun i hi=>by
  have h1:(i:Int)*(w+lag)<=(ps.length-1:Int)*(w+lag):=Int.mul_le_mul_of_nonneg_right (by omega) (by have:=h.w1;have:=hL.l1;omega)
  have h2:=h.time;have h3:(ps.length-1:Int)*(w+lag)=(ps.length:Int)*w-w+(ps.length-1:Int)*lag:=by rw[Int.mul_add,Int.sub_mul,Int.one_mul]
  omega
 refine⟨fun p hp=>?_,h.asc.imp fun hab=>by omega,hne,?_,?_,h.sum,?_,.inr (.inl ⟨rfl,h.two,rfl⟩)⟩
 ·obtain⟨i,hi⟩:=List.getElem?_of_mem hp
  obtain⟨e1,e2,e3,e4,e5,e6,l,e7,e8⟩:=h.each i p hi;have hlt:=hlast i (getElem?_lt hi);have hco:=getElem?_lt e7;have h1:0<=(i:Int)*(w+lag):=Int.mul_nonneg (by omega) (by have:=h.w1;have:=hL.l1;omega)
  have:=hL.CD;have:=hL.DT;have:=hL.T2;have:=h.w1;rw[Pc.ok_iff];omega
 ·cases ps with
  |nil=>exact absurd rfl hne
  |cons p ps=>have:=(h.each 0 p rfl).1;simpa [a2e] using this
 ·refine b6W fun i a b ha hb=>?_
  have ea:=h.each i a ha;have eb:=h.each (i+1) b hb;refine⟨?_,eb.2.2.2.2.1 (by omega)⟩
  rw[ea.1,ea.2.1,eb.1];have:((i+1:Nat):Int)*(w+lag)=(i:Int)*(w+lag)+(w+lag):=by simp[Int.add_mul]
  omega
 ·have hi:ps.length-1<ps.length:=by omega
  have e:=h.each (ps.length-1) ps[ps.length-1] (List.getElem?_eq_getElem hi);rw[b2u (List.getElem?_eq_getElem hi),e.1,e.2.1];exact hlast _ hi
def a0c(f:Nat->List Pc):Nat->Nat->List Pc
 |0,_=>[]
 |n+1,i=>if f i=[] then a0c f n (i+1) else f i
theorem a3n{f:Nat->List Pc}:∀(n i:Nat),a0c f n i≠[]->∃j,i<=j/\j<i+n/\a0c f n i=f j:=by
 intro n
 induction n with
 |zero=>intro i h;exact absurd rfl h
 |succ n ih=>
  intro i h;simp only[a0c] at h ⊢
  split at h
  ·rename_i e
   rw[if_pos e];obtain⟨j,h1,h2,h3⟩:=ih (i+1) h;exact⟨j,by omega,by omega,h3⟩
  ·rename_i e
   rw[if_neg e];exact⟨i,by omega,by omega,rfl⟩
noncomputable def a8Q (lag move C D T:Int) (ls:List (List Ld)) (a b:Nat):List Pc :=
 if a=b then [] else
 let x:=a0e (ls[a]?.getD []) T (C-1)
 if 1<=x/\C-x+move<=D-x-lag/\a6i (ls[b]?.getD []) (C-x+move) (D-x-lag) T=true then [⟨a,0,x,x⟩,⟨b,x+lag,D-x-lag,C-x+move⟩] else []
noncomputable def b3L (lag move C D T:Int) (ls:List (List Ld)):List Pc :=
 a0c (fun a=>a0c (fun b=>a8Q lag move C D T ls a b) ls.length 0) ls.length 0
structure ZeroOk (lag move C D T:Int) (ls:List (List Ld)) (ps:List Pc):Prop where
 it:∃(a b:Nat) (x:Int),a≠b/\a<ls.length/\b<ls.length/\1<=x/\x<=C-1/\C-x+move<=D-x-lag/\a6i (ls[a]?.getD []) x x T=true/\a6i (ls[b]?.getD []) (C-x+move) (D-x-lag) T=true /\
  ps=[⟨a,0,x,x⟩,⟨b,x+lag,D-x-lag,C-x+move⟩]
theorem b3D{ls:List (List Ld)}(h:b3L lag move C D T ls≠[]):ZeroOk lag move C D T ls (b3L lag move C D T ls):=by
 unfold b3L at *;obtain⟨a,_,ha,ea⟩:=a3n _ _ h
 rw[ea] at h;obtain⟨b,_,hb,eb⟩:=a3n _ _ h
 rw[ea,eb];rw[eb] at h;unfold a8Q at *
 split at h
 ·exact absurd rfl h
 ·rename_i hab
  rw[if_neg hab];simp only at h ⊢
  split at h
  ·rename_i hc
   rw[if_pos hc];have ht:=(a5C (ls[a]?.getD []) T (C-1)).2 (by omega)
   exact⟨⟨a,b,_,hab,by omega,by omega,hc.1,ht.1,hc.2.1,ht.2.2,hc.2.2,rfl⟩⟩
  ·exact absurd rfl h
theorem ZeroOk.plan{ls:List (List Ld)}{ps:List Pc}(h:ZeroOk lag move C D T ls ps)(hL:Lim cores lag move C D T)(hls:(ls.length:Int)=cores):PlanOk cores lag move C D 0 3 ps:=by
 obtain⟨a,b,x,h1,h2,h3,h4,h5,h6,h7,h8,rfl⟩:=h.it;obtain⟨c1,c2,l1,l2,m1,m2,C1,CD,DT,T2⟩:=hL;refine⟨fun p hp=>?_,?_,by simp,rfl,⟨⟨?_,?_⟩,trivial⟩,?_,?_,.inr (.inr ⟨rfl,rfl,_,_,rfl,rfl⟩)⟩
 ·rw[Pc.ok_iff]
  simp only[List.mem_cons,List.not_mem_nil,or_false] at hp;rcases hp with rfl|rfl<;>simp only<;>omega
 ·simp;omega
 ·simp
 ·simp only;omega
 ·simp[a8K];omega
 ·simp[a6V];omega
theorem b2x(hL:Lim cores lag move C D T){k:Int}{nsec:Nat}(h1:0<=k)(h2:k<cores):PlanOk cores lag move C D nsec 1 [⟨k,0,D,C⟩]:=by
 obtain⟨c1,c2,l1,l2,m1,m2,C1,CD,DT,T2⟩:=hL;refine⟨fun p hp=>?_,by simp,by simp,rfl,trivial,by simp[a8K],by simp[a6V],.inl ⟨rfl,_,rfl,rfl⟩⟩
 simp only[List.mem_singleton] at hp;subst hp;rw[Pc.ok_iff];simp only;omega
structure Inner (xs:List Int) (move:Int) (taken:List Bool) (j:Nat) (k:Int):Prop where
 none:k<0->k = -1/\∀m x,m<j->taken[m]?=some false->xs[m]?=some x->x<=move
 some:¬k<0->∃y,k<j/\taken[k.toNat]?=some false/\xs[k.toNat]?=some y/\move<y/\∀m x,m<j->(m:Int)≠k->taken[m]?=some false->xs[m]?=some x->move<x->x<y\/(x=y/\k<m)
theorem Inner.start(xs:List Int)(move:Int)(taken:List Bool):Inner xs move taken 0 (-1) :=
 ⟨fun _=>⟨rfl,fun m x h=>absurd h (Nat.not_lt_zero m)⟩,fun h=>absurd (by omega) h⟩
theorem Inner.skip{xs:List Int}{move:Int}{taken:List Bool}{j:Nat}{k:Int}(h:Inner xs move taken j k){b:Bool}{x:Int}(hb:taken[j]?=Option.some b)(hx:xs[j]?=Option.some x)
  (hn:b=true\/x<=move\/(¬k<0/\∀y,xs[k.toNat]?=Option.some y->x<=y)):Inner xs move taken (j+1) k:=by
 refine⟨fun hk=>⟨(h.none hk).1,fun m z hm hz hxm=>?_⟩,fun hk=>?_⟩
 ·by_cases e:m=j
  ·subst e
   rw[hb] at hz;rw[hx] at hxm;injection hz with hz;injection hxm with hxm
   subst hz;subst hxm;rcases hn with h1|h1|h1
   ·cases h1
   ·exact h1
   ·exact absurd hk h1.1
  ·exact(h.none hk).2 m z (by omega) hz hxm
 ·obtain⟨y,h1,h2,h3,h4,h5⟩:=h.some hk
  refine⟨y,by omega,h2,h3,h4,fun m z hm hmk hz hxm hmv=>?_⟩
  by_cases e:m=j
  ·subst e
   rw[hb] at hz;rw[hx] at hxm;injection hz with hz;injection hxm with hxm
   subst hz;subst hxm;rcases hn with h'|h'|h'
   ·cases h'
   ·omega
   ·have:=h'.2 y h3;omega
  ·exact h5 m z (by omega) hmk hz hxm hmv
theorem Inner.take{xs:List Int}{move:Int}{taken:List Bool}{j:Nat}{k:Int}(h:Inner xs move taken j k){x:Int}(hb:taken[j]?=Option.some false)(hx:xs[j]?=Option.some x)(hm:move<x)
  (hn:k<0\/∃y,xs[k.toNat]?=Option.some y/\y<x):Inner xs move taken (j+1) j:=by
 refine⟨fun hk=>absurd hk (by omega),fun _=>⟨x,by omega,by simpa using hb,by simpa using hx,hm,fun m z hmj hmk hz hxm hmv=>?_⟩⟩
 have hmj':m<j:=by omega
 rcases hn with hk|⟨y,hy,hlt⟩
 ·have:=(h.none hk).2 m z hmj' hz hxm;omega
 ·by_cases hk:k<0
  ·have:=(h.none hk).2 m z hmj' hz hxm;omega
  ·obtain⟨y',h1,h2,h3,h4,h5⟩:=h.some hk
   rw[hy] at h3;injection h3 with h3
   subst h3
   by_cases e:(m:Int)=k
   ·have e':k.toNat=m:=by omega
    rw[e',hxm] at hy;injection hy with hy
    omega
   ·have:=h5 m z hmj' e hz hxm hmv;omega
def a1X(move:Int)(xs:List Int):List Place:=a0w ltX (places move xs)
theorem a6p{move:Int}{xs:List Int}:(a1X move xs).Pairwise Place.ahead:=c2h _ a2g
theorem a1i{move:Int}{xs:List Int}{p:Place}:p∈a1X move xs↔0<=p.core/\xs[p.core.toNat]?=some p.x/\move<p.x:=by
 unfold a1X;rw[(a1Q _ _).mem_iff,a4s]
theorem a6q{move:Int}{xs:List Int}:(a1X move xs).length=(places move xs).length:=a1U _ _
structure Outer (xs:List Int) (move:Int) (i:Nat) (taken:List Bool):Prop where
 len:taken.length=xs.length
 le:i<=(places move xs).length
 iff:∀m:Nat,taken[m]?=some true↔∃p,p∈(a1X move xs).take i/\p.core=m
theorem Outer.start(xs:List Int)(move:Int):Outer xs move 0 (List.replicate xs.length false):=by
 refine⟨by simp,Nat.zero_le _,fun m=>?_⟩
 simp[List.getElem?_replicate]
theorem Outer.false{xs:List Int}{move:Int}{i:Nat}{taken:List Bool}(h:Outer xs move i taken){p:Place}(hp:p∈a1X move xs)(hn:p∉(a1X move xs).take i):taken[p.core.toNat]?=some false:=by
 have hm:=a1i.1 hp;have hlt:=(gSi.1 hm.2.1).1;rw[<-h.len] at hlt;rw[List.getElem?_eq_getElem hlt]
 cases hb:taken[p.core.toNat] with
 |false=>rfl
 |true=>
  obtain⟨q,hq,e⟩:=(h.iff p.core.toNat).1 (by rw[List.getElem?_eq_getElem hlt,hb])
  have hq':=a1i.1 (List.mem_of_mem_take hq);have e1:q.core=p.core:=by omega
  have e2:q.x=p.x:=by have:=hq'.2.1;rw[e1,hm.2.1] at this;injection this with h;exact h.symm
  have:q=p:=by cases q;cases p;simp only[Place.mk.injEq] at *;exact⟨e1,e2⟩
  subst this;exact absurd hq hn
theorem Outer.next{xs:List Int}{move:Int}{i:Nat}{taken:List Bool}(h:Outer xs move i taken){k:Int}(hi:Inner xs move taken xs.length k)(hk:¬k<0):Outer xs move (i+1) (taken.set k.toNat true):=by
 obtain⟨y,h1,h2,h3,h4,h5⟩:=hi.some hk;have hp:(⟨k,y⟩:Place)∈a1X move xs:=a1i.2 ⟨by simp only;omega,h3,h4⟩
 have hn:(⟨k,y⟩:Place)∉(a1X move xs).take i:=fun hm=>by
  have:=(h.iff k.toNat).2 ⟨_,hm,by simp only;omega⟩
  rw[h2] at this;cases this
 have hL:=b0P a6p hp hn fun q hq hnq hne=>by
  have hm:=a1i.1 hq
  have hqk:q.core≠k:=fun e=>hne (by
   have:=hm.2.1;rw[e,h3] at this;injection this with this
   cases q
   simp only[Place.mk.injEq] at *;exact⟨e,this.symm⟩)
  have:=h5 q.core.toNat q.x (gSi.1 hm.2.1).1 (by omega) (h.false hq hnq) hm.2.1 hm.2.2
  unfold Place.ahead;simp only;omega
 have hlt:=(gSi.1 hL).1;rw[a6q] at hlt;refine⟨by rw[List.length_set];exact h.len,hlt,fun m=>?_⟩
 have htk:(a1X move xs).take (i+1)=(a1X move xs).take i++[⟨k,y⟩]:=by rw[List.take_add_one,hL];rfl
 rw[htk,List.getElem?_set];have hkl:k.toNat<taken.length:=(gSi.1 h2).1
 split
 ·rename_i e
  subst e;exact⟨fun _=>⟨⟨k,y⟩,by simp,by simp only;omega⟩,fun _=>rfl⟩
 ·rename_i e
  rw[h.iff m]
  constructor
  ·rintro⟨p,hp,e'⟩;exact⟨p,by simp[hp],e'⟩
  ·rintro⟨p,hp,e'⟩
   rcases List.mem_append.1 hp with hp|hp
   ·exact⟨p,hp,e'⟩
   ·simp only[List.mem_singleton] at hp;subst hp;simp only at e';omega
def a3J(taken:List Bool):Nat->List Int
 |0=>[]
 |j+1=>if taken[j]?=some true then a3J taken j++[(j:Int)] else a3J taken j
theorem a6g{taken:List Bool}{j:Nat}{x:Int}:x∈a3J taken j↔0<=x/\x<j/\taken[x.toNat]?=some true:=by
 induction j with
 |zero=>simp[a3J];omega
 |succ j ih=>
  have key:∀{A:Prop},(x=(j:Int)->A)->(x≠(j:Int)->A)->A:=fun h1 h2=>(Classical.em (x=(j:Int))).elim h1 h2
  simp only[a3J]
  split
  ·rename_i h
   rw[List.mem_append,ih,List.mem_singleton]
   constructor
   ·rintro(⟨h1,h2,h3⟩|rfl)
    ·exact⟨h1,by omega,h3⟩
    ·exact⟨by omega,by omega,by simpa using h⟩
   ·rintro⟨h1,h2,h3⟩
    exact key (fun e=>.inr e) fun e=>.inl ⟨h1,by omega,h3⟩
  ·rename_i h
   rw[ih]
   constructor
   ·rintro⟨h1,h2,h3⟩;exact⟨h1,by omega,h3⟩
   ·rintro⟨h1,h2,h3⟩
    refine key (fun e=>?_) fun e=>⟨h1,by omega,h3⟩
    subst e;exact absurd (by simpa using h3) h
theorem a6m{taken:List Bool}{j:Nat}:(a3J taken j).Pairwise (· < ·):=by
 induction j with
 |zero=>exact List.Pairwise.nil
 |succ j ih=>
  simp only[a3J]
  split
  ·rw[List.pairwise_append]
   refine⟨ih,by simp,fun a ha b hb=>?_⟩
   have:=(a6g.1 ha).2.1;simp only[List.mem_singleton] at hb;omega
  ·exact ih
theorem Outer.end{xs:List Int}{move:Int}{n:Nat}{taken:List Bool}(h:Outer xs move n taken):a3J taken xs.length=(a1b (places move xs) n).map (·.core):=by
 refine b6t _ _ a6m (List.pairwise_map.2 (a5D a2g)) fun x=>?_
 rw[a6g,List.mem_map];have hb:a1b (places move xs) n=a0w ltC ((a1X move xs).take n):=by unfold a1b;rw[if_neg (by have:=h.le;omega)];rfl
 rw[hb]
 constructor
 ·rintro⟨h1,h2,h3⟩
  obtain⟨p,hp,e⟩:=(h.iff x.toNat).1 h3;exact⟨p,(a1Q _ _).mem_iff.2 hp,by omega⟩
 ·rintro⟨p,hp,rfl⟩
  have hp:=(a1Q _ _).mem_iff.1 hp;have hm:=a1i.1 (List.mem_of_mem_take hp);have hlt:=(gSi.1 hm.2.1).1;exact⟨hm.1,by omega,(h.iff _).2 ⟨p,hp,by omega⟩⟩
theorem b9o{xs:List Int}{move:Int}{n:Nat}{p:Place}(h:p∈a1b (places move xs) n):0<=p.core/\xs[p.core.toNat]?=some p.x/\move<p.x:=a4s.1 (b0C h)
end Go.Proofs.YtnjphclbpgajpaaGreatDoor.Ma
namespace Go.Proofs.YtnjphclbpgajpaaGreatDoor.Vc
open Go.RowKit Ma
theorem a0M:maxLen=9223372036854775807:=by decide
theorem b0z(nl:Bool)(l:List Ld)(hnl:nl=true->l=[])(hl:l.length<=1000):a0A Tryz.prog 137 [sL nl l] (.ow 3 nl (l.map eL)):=by
 have hm:=a0M
 cases nl with
 |true=>
  have:=hnl rfl;subst this;refine Fn.run c1q rfl ?_;generalize Tryz.prog=P at *
  (repeat'((conv=>whnf);first|exact trivial|(with_reducible first|refine zX ?_|refine zP ?_|refine zL ?_)|refine⟨rfl,?_⟩|refine⟨_,rfl,?_⟩|refine⟨fun _=>?_,fun _=>?_⟩|refine zn ?_|refine zb rfl ?_|refine zX ?_|refine zo rfl ?_|refine zs ?_|intro _));all_goals(try(conv=>whnf))
  all_goals rfl
 |false=>
  refine Fn.run c1q rfl ?_;generalize Tryz.prog=P at *
  (repeat'((conv=>whnf);first|exact trivial|(with_reducible first|refine zX ?_|refine zP ?_|refine zL ?_)|refine⟨rfl,?_⟩|refine⟨_,rfl,?_⟩|refine⟨fun _=>?_,fun _=>?_⟩|refine zn ?_|refine zb rfl ?_|refine zX ?_|refine zo rfl ?_|refine zs ?_|intro _));all_goals(try(conv=>whnf))
  all_goals rfl
theorem c6J(nl:Bool)(l:List Ld)(x:Ld):PV.sl 3 nl (l.map eL++[eL x])=sL nl (l++[x]):=by simp[sL]
theorem b7c(nl:Bool)(l:List Ld)(hnl:nl=true->l=[])(hl:l.length<=1000)(x:Ld):a0A Tryz.prog 170 [sL nl l,eL x] (.p (.bool (a1W (l++[x])))):=by
 have hm:=a0M;have hc:=b0z nl l hnl hl;have hf:=a9p false (l++[x]);rw[<-c6J] at hf
 cases nl with
 |true=>
  refine Fn.run c1w rfl ?_;generalize Tryz.prog=P at *
  (repeat'((conv=>whnf);first|exact trivial|(with_reducible first|refine zX ?_|refine zP ?_|refine zL ?_)|refine⟨rfl,?_⟩|refine⟨_,rfl,?_⟩|refine⟨fun _=>?_,fun _=>?_⟩|refine zn ?_|refine zb rfl ?_|refine zX ?_|refine zo rfl ?_|refine zs ?_|intro _));all_goals(try(conv=>whnf))
  all_goals rfl
 |false=>
  refine Fn.run c1w rfl ?_;generalize Tryz.prog=P at *
  (repeat'((conv=>whnf);first|exact trivial|(with_reducible first|refine zX ?_|refine zP ?_|refine zL ?_)|refine⟨rfl,?_⟩|refine⟨_,rfl,?_⟩|refine⟨fun _=>?_,fun _=>?_⟩|refine zn ?_|refine zb rfl ?_|refine zX ?_|refine zo rfl ?_|refine zs ?_|intro _));all_goals(try(conv=>whnf))
  all_goals rfl
theorem c0a(nl:Bool)(l:List Ld)(hnl:nl=true->l=[])(hl:l.length<=1000)(x:Ld):a0A Tryz.prog 139 [sL nl l,.ptr [.int .i64 x.c,.int .i64 x.d,.int .i64 x.t] 0] (.p (.bool (a1W (l++[x])))):=by
 have hm:=a0M;have hc:=b0z nl l hnl hl;have hf:=a9p false (l++[x]);rw[<-c6J] at hf
 cases nl with
 |true=>
  refine Fn.run c1v rfl ?_;generalize Tryz.prog=P at *
  (repeat'((conv=>whnf);first|exact trivial|(with_reducible first|refine zX ?_|refine zP ?_|refine zL ?_)|refine⟨rfl,?_⟩|refine⟨_,rfl,?_⟩|refine⟨fun _=>?_,fun _=>?_⟩|refine zn ?_|refine zb rfl ?_|refine zX ?_|refine zo rfl ?_|refine zs ?_|intro _));all_goals(try(conv=>whnf))
  all_goals rfl
 |false=>
  refine Fn.run c1v rfl ?_;generalize Tryz.prog=P at *
  (repeat'((conv=>whnf);first|exact trivial|(with_reducible first|refine zX ?_|refine zP ?_|refine zL ?_)|refine⟨rfl,?_⟩|refine⟨_,rfl,?_⟩|refine⟨fun _=>?_,fun _=>?_⟩|refine zn ?_|refine zb rfl ?_|refine zX ?_|refine zo rfl ?_|refine zs ?_|intro _));all_goals(try(conv=>whnf))
  all_goals rfl
abbrev LL:=List (Bool×List Ld)
def eC(p:Bool×List Ld):PV:=sL p.1 p.2
def sLL(nl:Bool)(ls:LL):PV:=.sl 1 nl (ls.map eC)
structure LLok (ls:LL):Prop where
 nils:∀p,p∈ls->p.1=true->p.2=[]
 len:∀p,p∈ls->p.2.length<=1000
 few:ls.length<=1000
theorem b8K(nl:Bool)(l:LL)(f:FuncId)(caps:List PV)(p:Bool×List Ld->Bool)(hp:∀x,x∈l->a0A Tryz.prog f ([eC x]++caps) (.p (.bool (p x)))) :
  a0A Tryz.prog 138 [sLL nl l,.fn f caps] (.p (.int .i64 (a0k p l 0))):=by
 refine Fn.run c3N rfl ?_;generalize Tryz.prog=P at *
 (repeat'((conv=>whnf);first|exact trivial|(with_reducible first|refine zX ?_|refine zP ?_|refine zL ?_)|refine⟨rfl,?_⟩|refine⟨_,rfl,?_⟩|refine⟨fun _=>?_,fun _=>?_⟩|refine zn ?_|refine zb rfl ?_|refine zX ?_|refine zo rfl ?_|refine zs ?_|intro _));all_goals(try(conv=>whnf))
 rename_i hlen;refine a0O (fun n s=>∃i:Nat,n+i=l.length/\a0k p (l.drop i) i=a0k p l 0/\s=⟨mkT 19 [(0,.p (sLL nl l)),(1,.p (.fn f caps)),(7,.p (.int .i64 (l.map eC).length)),(8,.p (.int .i64 i))],[]⟩) l.length ?_ ?_
 ·conv=>whnf
  exact⟨0,rfl,rfl,rfl⟩
 ·rintro n t b N ⟨i,hi,hI,e⟩ hN
  cases e
  by_cases hlt:i<l.length
  ·have hrow:(l.map eC)[i]?=some (eC l[i]):=by simp[hlt]
   have hb:=a7Y (n:=(l.map eC).length) (by simpa using hlt)
   have hc:=hp l[i] (List.getElem_mem _);rw[List.drop_eq_getElem_cons hlt] at hI;simp only[a0k] at hI
   (repeat'((conv=>whnf);first|exact trivial|(with_reducible first|refine zX ?_|refine zP ?_|refine zL ?_)|refine⟨rfl,?_⟩|refine⟨_,rfl,?_⟩|refine⟨fun _=>?_,fun _=>?_⟩|refine zn ?_|refine zb rfl ?_|refine zX ?_|refine zo rfl ?_|refine zs ?_|intro _));all_goals(try(conv=>whnf))
   ·rename_i e;rw[if_pos e] at hI;exact a0Y hI
   ·rename_i e
    rw[a2F (by simpa using hlt) hlen]
    rw[if_neg (by rw[e];decide)] at hI
    exact hN (n-1) _ (by omega) ⟨i+1,by omega,hI,rfl⟩
  ·have hb:=a8R (n:=(l.map eC).length) (by simpa using hlt)
   (repeat'((conv=>whnf);first|exact trivial|(with_reducible first|refine zX ?_|refine zP ?_|refine zL ?_)|refine⟨rfl,?_⟩|refine⟨_,rfl,?_⟩|refine⟨fun _=>?_,fun _=>?_⟩|refine zn ?_|refine zb rfl ?_|refine zX ?_|refine zo rfl ?_|refine zs ?_|intro _));all_goals(try(conv=>whnf))
   rw[List.drop_of_length_le (by omega)] at hI
   exact a0Y hI
theorem b6k(x:Ld):∀(ls:LL) (k:Int),a0k (fun p=>a1W (p.2++[x])) ls k=a4S x (ls.map (·.2)) k:=by
 intro ls
 induction ls with
 |nil=>intro k;rfl
 |cons p ls ih=>intro k;simp only[a0k,List.map_cons,a4S];rw[ih]
theorem c0c(nl:Bool)(ls:LL)(h:LLok ls)(x:Ld):a0A Tryz.prog 86 [sLL nl ls,eL x] (.p (.int .i64 (b2f (ls.map (·.2)) x))):=by
 have hc:=b8K nl ls 139 [.ptr [.int .i64 x.c,.int .i64 x.d,.int .i64 x.t] 0] (fun p=>a1W (p.2++[x])) fun p hp=>c0a p.1 p.2 (h.nils p hp) (h.len p hp) x
 rw[b6k] at hc;refine Fn.run k86 rfl ?_;generalize Tryz.prog=P at *
 (repeat'((conv=>whnf);first|exact trivial|(with_reducible first|refine zX ?_|refine zP ?_|refine zL ?_)|refine⟨rfl,?_⟩|refine⟨_,rfl,?_⟩|refine⟨fun _=>?_,fun _=>?_⟩|refine zn ?_|refine zb rfl ?_|refine zX ?_|refine zo rfl ?_|refine zs ?_|intro _));all_goals(try(conv=>whnf))
 all_goals rfl
structure Sec where
 res:Int
 at_:Int
 len:Int
deriving DecidableEq
structure Tk where
 C:Int
 D:Int
 T:Int
 nl:Bool
 secs:List Sec
def eS(x:Sec):PV:=.agg [.int .i64 x.res,.int .i64 x.at_,.int .i64 x.len]
def eT(t:Tk):PV:=.agg [.int .i64 t.C,.int .i64 t.D,.int .i64 t.T,.sl 3 t.nl (t.secs.map eS)]
def eP(p:Pc):PV:=.agg [.int .i64 p.core,.int .i64 p.off,.int .i64 p.len,.int .i64 p.c]
def ePl(kind:Int)(nl:Bool)(ps:List Pc):PV:=.agg [.int .i64 kind,.sl 4 nl (ps.map eP)]
def a1J(kind:Int)(ps:List Pc):DV:=if ps=[] then .tup [.p (ePl 0 true []),.p (.bool false)] else .tup [.p (ePl kind false ps),.p (.bool true)]
def a6F(k D C:Int):List Pc:=if k<0 then [] else [⟨k,0,D,C⟩]
theorem b8E(nl:Bool)(ls:LL)(h:LLok ls)(t:Tk)(w:Int)(h1 : -1000000<=t.C+w)(h2:t.C+w<=1000000) :
  a0A Tryz.prog 52 [sLL nl ls,eT t,.int .i64 w] (a1J 1 (a6F (b2f (ls.map (·.2)) ⟨t.C+w,t.D,t.T⟩) t.D t.C)):=by
 have hw:IntKind.wrap .i64 (t.C+w)=t.C+w:=a0T (by omega) (by omega)
 have hc:=c0c nl ls h ⟨t.C+w,t.D,t.T⟩;simp only[eL] at hc;rw[<-hw] at hc;rw[<-hw];generalize b2f (ls.map (·.2)) ⟨IntKind.wrap .i64 (t.C+w),t.D,t.T⟩=k at *
 by_cases hk:k<0
 ·have hb:decide (k<0)=true:=decide_eq_true hk
  have e:a1J 1 (a6F k t.D t.C)=.tup [.p (ePl 0 true []),.p (.bool false)]:=by unfold a1J a6F;rw[if_pos hk,if_pos rfl]
  rw[e];refine Fn.run k52 rfl ?_;generalize Tryz.prog=P at *
  (repeat'((conv=>whnf);first|exact trivial|(with_reducible first|refine zX ?_|refine zP ?_|refine zL ?_)|refine⟨rfl,?_⟩|refine⟨_,rfl,?_⟩|refine⟨fun _=>?_,fun _=>?_⟩|refine zn ?_|refine zb rfl ?_|refine zX ?_|refine zo rfl ?_|refine zs ?_|intro _));all_goals(try(conv=>whnf))
  all_goals rfl
 ·have hb:decide (k<0)=false:=decide_eq_false hk
  have e:a1J 1 (a6F k t.D t.C)=.tup [.p (ePl 1 false [⟨k,0,t.D,t.C⟩]),.p (.bool true)]:=by unfold a1J a6F;rw[if_neg hk,if_neg (by simp)]
  rw[e];refine Fn.run k52 rfl ?_;generalize Tryz.prog=P at *
  (repeat'((conv=>whnf);first|exact trivial|(with_reducible first|refine zX ?_|refine zP ?_|refine zL ?_)|refine⟨rfl,?_⟩|refine⟨_,rfl,?_⟩|refine⟨fun _=>?_,fun _=>?_⟩|refine zn ?_|refine zb rfl ?_|refine zX ?_|refine zo rfl ?_|refine zs ?_|intro _));all_goals(try(conv=>whnf))
  all_goals rfl
theorem b9x(nl:Bool)(l:List Ld)(d t:Int):a0A Tryz.prog 169 [sL nl l,.int .i64 d,.int .i64 t] (.p (.bool (b5e l d t))):=by
 have hf:=a9p nl l;refine Fn.run c3m rfl ?_;generalize Tryz.prog=P at *
 (repeat'((conv=>whnf);first|exact trivial|(with_reducible first|refine zX ?_|refine zP ?_|refine zL ?_)|refine⟨rfl,?_⟩|refine⟨_,rfl,?_⟩|refine⟨fun _=>?_,fun _=>?_⟩|refine zn ?_|refine zb rfl ?_|refine zX ?_|refine zo rfl ?_|refine zs ?_|intro _));all_goals(try(conv=>whnf))
 all_goals (refine a0J (Bool.eq_iff_iff.2 ?_);simp only[b5e,List.length_map,bAt,Bool.or_eq_true,Bool.and_eq_false_iff,Bool.or_eq_false_iff,decide_eq_true_eq,decide_eq_false_iff_not,Bool.not_eq_true',Bool.not_eq_false',Bool.false_eq_true,Bool.true_eq_false,Bool.not_true,Bool.not_false,ge_iff_le,gt_iff_lt] at *;first|done|omega|(simp only[false_iff];omega)|(simp only[true_iff];omega)|grind)
theorem b9y(nl:Bool)(l:List Ld)(hnl:nl=true->l=[])(hll:l.length<=1000)(d t m:Int)(hm0 : -1000000<=m):a0A Tryz.prog 130 [sL nl l,.int .i64 d,.int .i64 t,.int .i64 m] (.p (.int .i64 (a1m l d t m))):=by
 have hmay:=b9x nl l d t;unfold a1m
 cases hM:b5e l d t with
 |false=>
  rw[hM] at hmay;refine Fn.run c6C rfl ?_;generalize Tryz.prog=P at *
  (repeat'((conv=>whnf);first|exact trivial|(with_reducible first|refine zX ?_|refine zP ?_|refine zL ?_)|refine⟨rfl,?_⟩|refine⟨_,rfl,?_⟩|refine⟨fun _=>?_,fun _=>?_⟩|refine zn ?_|refine zb rfl ?_|refine zX ?_|refine zo rfl ?_|refine zs ?_|intro _));all_goals(try(conv=>whnf))
  all_goals exact a0Y (by simp)
 |true=>
  rw[hM] at hmay;have hw:=fun c=>b7c nl l hnl hll ⟨c,d,t⟩
  simp only[eL] at hw
  have hd:1<=d/\d<=200:=by
   simp only[b5e,bAt,decide_eq_true_eq] at hM;omega
  obtain⟨s1,s2,s3,s4⟩:=a4U l d t (min m d).toNat;rw[if_pos rfl];generalize hV:a1B l d t (min m d).toNat=V at *;have hmn:(if d<m then d else m)=min m d:=by split<;>omega
  refine Fn.run c6C rfl ?_;generalize Tryz.prog=P at *
  (repeat'((conv=>whnf);first|exact trivial|(with_reducible first|refine zX ?_|refine zP ?_|refine zL ?_)|refine⟨rfl,?_⟩|refine⟨_,rfl,?_⟩|refine⟨fun _=>?_,fun _=>?_⟩|refine zn ?_|refine zb rfl ?_|refine zX ?_|refine zo rfl ?_|refine zs ?_|intro _));all_goals(try(conv=>whnf))
  refine a0O (fun n s=>∃lo hi:Int,n=(hi-lo).toNat/\0<=lo/\hi<=min m d/\(lo=0\/a6i l lo d t=true)/\lo<=V/\(V<=hi\/(V=0/\lo=0)) /\
   s=⟨mkT 40 [(0,.p (sL nl l)),(1,.p (.int .i64 d)),(2,.p (.int .i64 t)),(9,.p (.int .i64 lo)),(10,.p (.int .i64 hi))],[]⟩) (min m d).toNat ?_ ?_
  ·conv=>whnf
   refine⟨0,min m d,by omega,Int.le_refl _,Int.le_refl _,.inl rfl,s1,by omega,?_⟩
   rw[<-hmn];rfl
  ·rintro n st b N ⟨lo,hi,hn,h0,h1,h2,h3,h4,e⟩ hN
   cases e
   by_cases hlt:lo<hi
   ·have hb:decide (lo<hi)=true:=decide_eq_true hlt
    have e1:IntKind.wrap .i64 (hi-lo)=hi-lo:=a0T (by omega) (by omega)
    have e2:IntKind.wrap .i64 (hi-lo+1)=hi-lo+1:=a0T (by omega) (by omega)
    have hq:1<=(hi-lo+1)/2/\(hi-lo+1)/2<=hi-lo:=by omega
    have e3:IntKind.wrap .i64 ((hi-lo+1).tdiv 2)=(hi-lo+1)/2:=by
     rw[Int.tdiv_eq_ediv_of_nonneg (by omega)];exact a0T (by omega) (by omega)
    have e4:IntKind.wrap .i64 (lo+(hi-lo+1)/2)=lo+(hi-lo+1)/2:=a0T (by omega) (by omega)
    have hc:=hw (IntKind.wrap .i64 (lo+IntKind.wrap .i64 ((IntKind.wrap .i64 (IntKind.wrap .i64 (hi-lo)+1)).tdiv 2)));have hg:IntKind.wrap .i64 (lo+IntKind.wrap .i64 ((IntKind.wrap .i64 (IntKind.wrap .i64 (hi-lo)+1)).tdiv 2))=lo+(hi-lo+1)/2:=by rw[e1,e2,e3,e4]
    (repeat'((conv=>whnf);first|exact trivial|(with_reducible first|refine zX ?_|refine zP ?_|refine zL ?_)|refine⟨rfl,?_⟩|refine⟨_,rfl,?_⟩|refine⟨fun _=>?_,fun _=>?_⟩|refine zn ?_|refine zb rfl ?_|refine zX ?_|refine zo rfl ?_|refine zs ?_|intro _));all_goals(try(conv=>whnf))
    ·rename_i e
     rw[hg] at e ⊢
     have hcV:lo+(hi-lo+1)/2<=V:=by
      refine Int.not_lt.1 fun hlt2=>?_
      have:=s4 _ hlt2 (by omega)
      unfold a6i at this;rw[e] at this;cases this
     exact hN _ _ (by omega) ⟨lo+(hi-lo+1)/2,hi,rfl,by omega,h1,.inr e,hcV,by omega,rfl⟩
    ·rename_i e
     rw[hg] at e ⊢;rw[a0T (n:=lo+(hi-lo+1)/2-1) (by omega) (by omega)]
     have hcV:V<lo+(hi-lo+1)/2:=by
      refine Int.not_le.1 fun hle=>?_
      have:=a9q (s3 (by omega)) (c':=lo+(hi-lo+1)/2) (by omega) hle
      unfold a6i at this;rw[e] at this;cases this
     exact hN _ _ (by omega) ⟨lo,lo+(hi-lo+1)/2-1,rfl,h0,by omega,h2,h3,by omega,rfl⟩
   ·have hb:decide (lo<hi)=false:=decide_eq_false hlt
    (repeat'((conv=>whnf);first|exact trivial|(with_reducible first|refine zX ?_|refine zP ?_|refine zL ?_)|refine⟨rfl,?_⟩|refine⟨_,rfl,?_⟩|refine⟨fun _=>?_,fun _=>?_⟩|refine zn ?_|refine zb rfl ?_|refine zX ?_|refine zo rfl ?_|refine zs ?_|intro _));all_goals(try(conv=>whnf))
    exact a0Y (by omega)
theorem c5J(c d t:Int):eL ⟨c,d,t⟩=.agg [.int .i64 c,.int .i64 d,.int .i64 t]:=rfl
theorem b3m(nl:Bool)(l:List Ld)(hnl:nl=true->l=[])(hll:l.length<=1000)(t m:Int):a0A Tryz.prog 135 [sL nl l,.int .i64 t,.int .i64 m] (.p (.int .i64 (a0e l t m))):=by
 have hmay:=b9x nl l t t;unfold a0e
 cases hM:b5e l t t with
 |false=>
  rw[hM] at hmay;refine Fn.run c7B rfl ?_;generalize Tryz.prog=P at *
  (repeat'((conv=>whnf);first|exact trivial|(with_reducible first|refine zX ?_|refine zP ?_|refine zL ?_)|refine⟨rfl,?_⟩|refine⟨_,rfl,?_⟩|refine⟨fun _=>?_,fun _=>?_⟩|refine zn ?_|refine zb rfl ?_|refine zX ?_|refine zo rfl ?_|refine zs ?_|intro _));all_goals(try(conv=>whnf))
  all_goals exact a0Y (by simp)
 |true=>
  have hM':=hM;simp only[b5e,bAt,decide_eq_true_eq] at hM';obtain⟨p1,p2,p3,p4,p5⟩:=hM';rw[hM] at hmay;have hw:=fun c d=>b7c nl l hnl hll ⟨c,d,t⟩
  simp only[c5J] at hw;rw[if_pos rfl];have hmn:(if t<m then t else m)=min m t:=by split<;>omega
  refine Fn.run c7B rfl ?_;generalize Tryz.prog=P at *
  (repeat'((conv=>whnf);first|exact trivial|(with_reducible first|refine zX ?_|refine zP ?_|refine zL ?_)|refine⟨rfl,?_⟩|refine⟨_,rfl,?_⟩|refine⟨fun _=>?_,fun _=>?_⟩|refine zn ?_|refine zb rfl ?_|refine zX ?_|refine zo rfl ?_|refine zs ?_|intro _));all_goals(try(conv=>whnf))
  refine a0O (fun n s=>∃c:Int,n=(min m t-c).toNat/\0<=c/\c<=200/\a0m l t n c=a0m l t (min m t).toNat 0 /\
   s=⟨mkT 31 [(0,.p (sL nl l)),(1,.p (.int .i64 t)),(2,.p (.int .i64 m)),(7,.p (.int .i64 c))],[]⟩) (min m t).toNat ?_ ?_
  ·conv=>whnf
   exact⟨0,by omega,Int.le_refl _,by omega,rfl,rfl⟩
  ·rintro n st b N ⟨c,hn,h0,h1,h2,e⟩ hN
   cases e
   have hcw:IntKind.wrap .i64 (c+1)=c+1:=a0T (by omega) (by omega)
   by_cases hlt:c<(if t<m then t else m)
   ·have hb:decide (c<(if t<m then t else m))=true:=decide_eq_true hlt
    rw[hmn] at hlt;have hc:=hw (IntKind.wrap .i64 (c+1)) (IntKind.wrap .i64 (c+1));have hn1:n=(min m t-(c+1)).toNat+1:=by omega
    rw[hn1] at h2;simp only[a0m] at h2
    (repeat'((conv=>whnf);first|exact trivial|(with_reducible first|refine zX ?_|refine zP ?_|refine zL ?_)|refine⟨rfl,?_⟩|refine⟨_,rfl,?_⟩|refine⟨fun _=>?_,fun _=>?_⟩|refine zn ?_|refine zb rfl ?_|refine zX ?_|refine zo rfl ?_|refine zs ?_|intro _));all_goals(try(conv=>whnf))
    ·rename_i e
     rw[hcw] at e ⊢;unfold a6i at h2;rw[if_pos e] at h2;exact hN _ _ (by omega) ⟨c+1,rfl,by omega,by omega,h2,rfl⟩
    ·rename_i e
     rw[hcw] at e;unfold a6i at h2;rw[if_neg (by rw[e];decide)] at h2
     exact a0Y h2
   ·have hb:decide (c<(if t<m then t else m))=false:=decide_eq_false hlt
    rw[hmn] at hlt;have hn0:n=0:=by omega
    subst hn0
    (repeat'((conv=>whnf);first|exact trivial|(with_reducible first|refine zX ?_|refine zP ?_|refine zL ?_)|refine⟨rfl,?_⟩|refine⟨_,rfl,?_⟩|refine⟨fun _=>?_,fun _=>?_⟩|refine zn ?_|refine zb rfl ?_|refine zX ?_|refine zo rfl ?_|refine zs ?_|intro _));all_goals(try(conv=>whnf))
    exact a0Y h2
open Go.RowKit Ma
structure Cf where
 cores:Int
 syncs:Int
 lag:Int
 move:Int
 nl:Bool
 res:List Int
def eI(x:Int):PV:=.int .i64 x
def sI(nl:Bool)(l:List Int):PV:=.sl 1 nl (l.map eI)
def cCf(c:Cf):List PV:=[.int .i64 c.cores,.int .i64 c.syncs,.int .i64 c.lag,.int .i64 c.move,sI c.nl c.res]
def eCf(c:Cf):PV:=.agg [.int .i64 c.cores,.int .i64 c.syncs,.int .i64 c.lag,.int .i64 c.move,sI c.nl c.res]
def bCf(c:Cf)(live:Bool):Box:=⟨live,5,[[.p (.int .i64 c.cores),.p (.int .i64 c.syncs),.p (.int .i64 c.lag),.p (.int .i64 c.move),.p (sI c.nl c.res)]],false⟩
def bTk(t:Tk):Box:=⟨true,4,[[.p (.int .i64 t.C),.p (.int .i64 t.D),.p (.int .i64 t.T),.p (.sl 3 t.nl (t.secs.map eS))]],false⟩
def b4l(syncs a:Int):Bool:=decide (a<0)||decide (a≥syncs)
def a6M(c:Cf):Prop:=(1<=c.cores/\c.cores<=6)/\(0<=c.syncs/\c.syncs<=3)/\(0<=c.lag/\c.lag<=5)/\(0<=c.move/\c.move<=5)
instance (c:Cf):Decidable (a6M c):=inferInstanceAs (Decidable (_/\_))
def Cf.ok(c:Cf):Bool:=decide (a6M c)&&(decide (c.res.length<=6) && !c.res.any (b4l c.syncs))
theorem c4S(a:Int)(c:Cf):a0A Tryz.prog 127 [.int .i64 a,.ptr (cCf c) 0] (.p (.bool (b4l c.syncs a))):=by
 refine Fn.run c4E rfl ?_;generalize Tryz.prog=P at *
 (repeat'((conv=>whnf);first|exact trivial|(with_reducible first|refine zX ?_|refine zP ?_|refine zL ?_)|refine⟨rfl,?_⟩|refine⟨_,rfl,?_⟩|refine⟨fun _=>?_,fun _=>?_⟩|refine zn ?_|refine zb rfl ?_|refine zX ?_|refine zo rfl ?_|refine zs ?_|intro _));all_goals(try(conv=>whnf))
 all_goals (refine a0J (Bool.eq_iff_iff.2 ?_);simp only[b4l,bAt,Bool.or_eq_true,Bool.and_eq_false_iff,Bool.or_eq_false_iff,decide_eq_true_eq,decide_eq_false_iff_not,Bool.not_eq_true',Bool.not_eq_false',Bool.false_eq_true,Bool.true_eq_false,Bool.not_true,Bool.not_false,ge_iff_le,gt_iff_lt] at *;first|done|omega|(simp only[false_iff];omega)|(simp only[true_iff];omega)|grind)
theorem b9X(nl:Bool)(l:List Int)(f:FuncId)(caps:List PV)(p:Int->Bool)(hp:∀x,x∈l->a0A Tryz.prog f ([.int .i64 x]++caps) (.p (.bool (p x)))) :
  a0A Tryz.prog 168 [sI nl l,.fn f caps] (.p (.int .i64 (a0k p l 0))):=by
 refine Fn.run c5F rfl ?_;generalize Tryz.prog=P at *
 (repeat'((conv=>whnf);first|exact trivial|(with_reducible first|refine zX ?_|refine zP ?_|refine zL ?_)|refine⟨rfl,?_⟩|refine⟨_,rfl,?_⟩|refine⟨fun _=>?_,fun _=>?_⟩|refine zn ?_|refine zb rfl ?_|refine zX ?_|refine zo rfl ?_|refine zs ?_|intro _));all_goals(try(conv=>whnf))
 rename_i hlen;refine a0O (fun n s=>∃i:Nat,n+i=l.length/\a0k p (l.drop i) i=a0k p l 0/\s=⟨mkT 19 [(0,.p (sI nl l)),(1,.p (.fn f caps)),(7,.p (.int .i64 (l.map eI).length)),(8,.p (.int .i64 i))],[]⟩) l.length ?_ ?_
 ·conv=>whnf
  exact⟨0,rfl,rfl,rfl⟩
 ·rintro n t b N ⟨i,hi,hI,e⟩ hN
  cases e
  by_cases hlt:i<l.length
  ·have hrow:(l.map eI)[i]?=some (.int .i64 l[i]):=by simp[hlt,eI]
   have hb:=a7Y (n:=(l.map eI).length) (by simpa using hlt)
   have hc:=hp l[i] (List.getElem_mem _);rw[List.drop_eq_getElem_cons hlt] at hI;simp only[a0k] at hI
   (repeat'((conv=>whnf);first|exact trivial|(with_reducible first|refine zX ?_|refine zP ?_|refine zL ?_)|refine⟨rfl,?_⟩|refine⟨_,rfl,?_⟩|refine⟨fun _=>?_,fun _=>?_⟩|refine zn ?_|refine zb rfl ?_|refine zX ?_|refine zo rfl ?_|refine zs ?_|intro _));all_goals(try(conv=>whnf))
   ·rename_i e;rw[if_pos e] at hI;exact a0Y hI
   ·rename_i e
    rw[a2F (by simpa using hlt) hlen]
    rw[if_neg (by rw[e];decide)] at hI
    exact hN (n-1) _ (by omega) ⟨i+1,by omega,hI,rfl⟩
  ·have hb:=a8R (n:=(l.map eI).length) (by simpa using hlt)
   (repeat'((conv=>whnf);first|exact trivial|(with_reducible first|refine zX ?_|refine zP ?_|refine zL ?_)|refine⟨rfl,?_⟩|refine⟨_,rfl,?_⟩|refine⟨fun _=>?_,fun _=>?_⟩|refine zn ?_|refine zb rfl ?_|refine zX ?_|refine zo rfl ?_|refine zs ?_|intro _));all_goals(try(conv=>whnf))
   rw[List.drop_of_length_le (by omega)] at hI
   exact a0Y hI
theorem c5I(nl:Bool)(l:List Int)(f:FuncId)(caps:List PV)(p:Int->Bool)(hp:∀x,x∈l->a0A Tryz.prog f ([.int .i64 x]++caps) (.p (.bool (p x)))) :
  a0A Tryz.prog 128 [sI nl l,.fn f caps] (.p (.bool (l.any p))):=by
 have h:=b9X nl l f caps p hp;rw[<-a6C (show (0:Int)<=0 by omega)]
 refine Fn.run c4H rfl ?_;generalize Tryz.prog=P at *
 (repeat'((conv=>whnf);first|exact trivial|(with_reducible first|refine zX ?_|refine zP ?_|refine zL ?_)|refine⟨rfl,?_⟩|refine⟨_,rfl,?_⟩|refine⟨fun _=>?_,fun _=>?_⟩|refine zn ?_|refine zb rfl ?_|refine zX ?_|refine zo rfl ?_|refine zs ?_|intro _));all_goals(try(conv=>whnf))
 all_goals exact a0J rfl
theorem b1t(c:Cf)(hl:c.res.length<=1000):a0A Tryz.prog 80 [eCf c] (.p (.bool c.ok)):=by
 have h1:=a3Z c.cores 1 6;have h2:=a3Z c.syncs 0 3;have h3:=a3Z c.lag 0 5;have h4:=a3Z c.move 0 5;have h5:=c5I c.nl c.res 127 [.ptr (cCf c) 0] (b4l c.syncs) fun x _=>c4S x c
 unfold Cf.ok
 by_cases hh:a6M c
 ·have hh':=hh
  unfold a6M at hh';obtain⟨⟨a1,a2⟩,⟨a3,a4⟩,⟨a5,a6⟩,a7,a8⟩:=hh';have b1:(decide (1<=c.cores)&&decide (c.cores<=6))=true:=by simp[a1,a2]
  have b2:(decide (0<=c.syncs)&&decide (c.syncs<=3))=true:=by simp[a3,a4]
  have b3:(decide (0<=c.lag)&&decide (c.lag<=5))=true:=by simp[a5,a6]
  have b4:(decide (0<=c.move)&&decide (c.move<=5))=true:=by simp[a7,a8]
  rw[b1] at h1;rw[b2] at h2;rw[b3] at h3;rw[b4] at h4;rw[decide_eq_true hh,Bool.true_and]
  by_cases hr:c.res.length<=6
  ·have hb:decide (((c.res.map eI).length:Int)<=6)=true:=decide_eq_true (by simp;omega)
   rw[decide_eq_true hr,Bool.true_and];refine Fn.run k80 rfl ?_;generalize Tryz.prog=P at *
   (repeat'((conv=>whnf);first|exact trivial|(with_reducible first|refine zX ?_|refine zP ?_|refine zL ?_)|refine⟨rfl,?_⟩|refine⟨_,rfl,?_⟩|refine⟨fun _=>?_,fun _=>?_⟩|refine zn ?_|refine zb rfl ?_|refine zX ?_|refine zo rfl ?_|refine zs ?_|intro _));all_goals(try(conv=>whnf))
   all_goals exact a0J rfl
  ·have hb:decide (((c.res.map eI).length:Int)<=6)=false:=decide_eq_false (by simp;omega)
   rw[decide_eq_false hr,Bool.false_and];refine Fn.run k80 rfl ?_;generalize Tryz.prog=P at *
   (repeat'((conv=>whnf);first|exact trivial|(with_reducible first|refine zX ?_|refine zP ?_|refine zL ?_)|refine⟨rfl,?_⟩|refine⟨_,rfl,?_⟩|refine⟨fun _=>?_,fun _=>?_⟩|refine zn ?_|refine zb rfl ?_|refine zX ?_|refine zo rfl ?_|refine zs ?_|intro _));all_goals(try(conv=>whnf))
   all_goals exact a0J rfl
 ·rw[decide_eq_false hh,Bool.false_and]
  have hh':((decide (1<=c.cores)&&decide (c.cores<=6))&&((decide (0<=c.syncs)&&decide (c.syncs<=3))&&((decide (0<=c.lag)&&decide (c.lag<=5))&&(decide (0<=c.move)&&decide (c.move<=5)))))=false:=by
   refine Bool.eq_false_iff.2 fun e=>hh ?_
   simpa [a6M] using e
  generalize (decide (1<=c.cores)&&decide (c.cores<=6))=x1 at *;generalize (decide (0<=c.syncs)&&decide (c.syncs<=3))=x2 at *;generalize (decide (0<=c.lag)&&decide (c.lag<=5))=x3 at *;generalize (decide (0<=c.move)&&decide (c.move<=5))=x4 at *;refine Fn.run k80 rfl ?_;generalize Tryz.prog=P at *;clear hh h5
  (repeat'((conv=>whnf);first|exact trivial|(with_reducible first|refine zX ?_|refine zP ?_|refine zL ?_)|refine⟨rfl,?_⟩|refine⟨_,rfl,?_⟩|refine⟨fun _=>?_,fun _=>?_⟩|refine zn ?_|refine zb rfl ?_|refine zX ?_|refine zo rfl ?_|refine zs ?_|intro _));all_goals(try(conv=>whnf))
  all_goals first
   |exact a0J rfl
   | (exfalso
      have e1:x1=true:=by first|assumption|(simpa using(by assumption:(!x1)=false))
      have e2:x2=true:=by first|assumption|(simpa using(by assumption:(!x2)=false))
      have e3:x3=true:=by first|assumption|(simpa using(by assumption:(!x3)=false))
      have e4:x4=true:=by first|assumption|(simpa using(by assumption:(!x4)=false))
      rw[e1,e2,e3,e4] at hh';exact absurd hh' (by decide))
theorem b6C(c:Cf)(hl:c.res.length<=1000):a0A Tryz.prog 46 [eCf c] (.p (.bool c.ok)):=by
 have hm:=a0M;have h1:=b8Y c.cores 1 6;have h2:=b8Y c.syncs 0 3;have h3:=b8Y c.lag 0 5;have h4:=b8Y c.move 0 5;refine Fn.run k46 rfl ?_;generalize Tryz.prog=P at *
 (repeat'((conv=>whnf);first|exact trivial|(with_reducible first|refine zX ?_|refine zP ?_|refine zL ?_)|refine⟨rfl,?_⟩|refine⟨_,rfl,?_⟩|refine⟨fun _=>?_,fun _=>?_⟩|refine zn ?_|refine zb rfl ?_|refine zX ?_|refine zo rfl ?_|refine zs ?_|intro _));all_goals(try(conv=>whnf))
 refine a0O (fun n s=>∃i:Nat,n+i=c.res.length/\(c.res.drop i).any (b4l c.syncs)=c.res.any (b4l c.syncs)/\s=⟨mkT 51 [(1,.addr 0 5 0 0),(3,.p (.int .i64 i))],[some (bCf c true)]⟩) c.res.length ?_ ?_
 ·conv=>whnf
  exact⟨0,rfl,rfl,rfl⟩
 ·rintro n t b N ⟨i,hi,hI,e⟩ hN
  cases e
  by_cases hlt:i<c.res.length
  ·have hrow:(c.res.map eI)[i]?=some (.int .i64 c.res[i]):=by simp[hlt,eI]
   have hb:=a7Y (n:=(c.res.map eI).length) (by simpa using hlt)
   rw[List.drop_eq_getElem_cons hlt] at hI;simp only[List.any_cons] at hI
   by_cases c1:c.res[i]<0
   ·have d1:decide (c.res[i]<0)=true:=decide_eq_true c1
    have hok:c.ok=false:=by
     unfold Cf.ok;rw[<-hI];simp[b4l,c1]
    (repeat'((conv=>whnf);first|exact trivial|(with_reducible first|refine zX ?_|refine zP ?_|refine zL ?_)|refine⟨rfl,?_⟩|refine⟨_,rfl,?_⟩|refine⟨fun _=>?_,fun _=>?_⟩|refine zn ?_|refine zb rfl ?_|refine zX ?_|refine zo rfl ?_|refine zs ?_|intro _));all_goals(try(conv=>whnf))
    exact a0J hok.symm
   ·have d1:decide (c.res[i]<0)=false:=decide_eq_false c1
    by_cases c2:c.res[i]≥c.syncs
    ·have d2:decide (c.res[i]≥c.syncs)=true:=decide_eq_true c2
     have hok:c.ok=false:=by
      unfold Cf.ok;rw[<-hI];simp[b4l,d2]
     (repeat'((conv=>whnf);first|exact trivial|(with_reducible first|refine zX ?_|refine zP ?_|refine zL ?_)|refine⟨rfl,?_⟩|refine⟨_,rfl,?_⟩|refine⟨fun _=>?_,fun _=>?_⟩|refine zn ?_|refine zb rfl ?_|refine zX ?_|refine zo rfl ?_|refine zs ?_|intro _));all_goals(try(conv=>whnf))
     exact a0J hok.symm
    ·have d2:decide (c.res[i]≥c.syncs)=false:=decide_eq_false c2
     have hbad:b4l c.syncs c.res[i]=false:=by unfold b4l;rw[d1,d2];rfl
     rw[hbad,Bool.false_or] at hI
     (repeat'((conv=>whnf);first|exact trivial|(with_reducible first|refine zX ?_|refine zP ?_|refine zL ?_)|refine⟨rfl,?_⟩|refine⟨_,rfl,?_⟩|refine⟨fun _=>?_,fun _=>?_⟩|refine zn ?_|refine zb rfl ?_|refine zX ?_|refine zo rfl ?_|refine zs ?_|intro _));all_goals(try(conv=>whnf))
     rw[a2F (n:=c.res.length) hlt (by omega)]
     exact hN (n-1) _ (by omega) ⟨i+1,by omega,hI,rfl⟩
  ·have hb:=a8R (n:=(c.res.map eI).length) (by simpa using hlt)
   rw[List.drop_of_length_le (by omega)] at hI
   have hI':c.res.any (b4l c.syncs)=false:=by rw[<-hI];rfl
   clear hN hI
   by_cases hh:a6M c
   ·have hh':=hh
    unfold a6M at hh';obtain⟨⟨a1,a2⟩,⟨a3,a4⟩,⟨a5,a6⟩,a7,a8⟩:=hh';have b1:(decide (1<=c.cores)&&decide (c.cores<=6))=true:=by simp[a1,a2]
    have b2:(decide (0<=c.syncs)&&decide (c.syncs<=3))=true:=by simp[a3,a4]
    have b3:(decide (0<=c.lag)&&decide (c.lag<=5))=true:=by simp[a5,a6]
    have b4:(decide (0<=c.move)&&decide (c.move<=5))=true:=by simp[a7,a8]
    rw[b1] at h1;rw[b2] at h2;rw[b3] at h3;rw[b4] at h4
    have hok:c.ok=decide (((c.res.map eI).length:Int)<=6):=by
     unfold Cf.ok;rw[hI',decide_eq_true hh,Bool.true_and,Bool.not_false,Bool.and_true,Bool.eq_iff_iff];simp;omega
    rw[hok]
    (repeat'((conv=>whnf);first|exact trivial|(with_reducible first|refine zX ?_|refine zP ?_|refine zL ?_)|refine⟨rfl,?_⟩|refine⟨_,rfl,?_⟩|refine⟨fun _=>?_,fun _=>?_⟩|refine zn ?_|refine zb rfl ?_|refine zX ?_|refine zo rfl ?_|refine zs ?_|intro _));all_goals(try(conv=>whnf))
    all_goals exact a0J rfl
   ·have hok:c.ok=false:=by unfold Cf.ok;rw[decide_eq_false hh,Bool.false_and]
    rw[hok]
    have hh':((decide (1<=c.cores)&&decide (c.cores<=6))&&((decide (0<=c.syncs)&&decide (c.syncs<=3))&&((decide (0<=c.lag)&&decide (c.lag<=5))&&(decide (0<=c.move)&&decide (c.move<=5)))))=false:=by
     refine Bool.eq_false_iff.2 fun e=>hh ?_
     simpa [a6M] using e
    generalize (decide (1<=c.cores)&&decide (c.cores<=6))=x1 at *;generalize (decide (0<=c.syncs)&&decide (c.syncs<=3))=x2 at *;generalize (decide (0<=c.lag)&&decide (c.lag<=5))=x3 at *;generalize (decide (0<=c.move)&&decide (c.move<=5))=x4 at *
    (repeat'((conv=>whnf);first|exact trivial|(with_reducible first|refine zX ?_|refine zP ?_|refine zL ?_)|refine⟨rfl,?_⟩|refine⟨_,rfl,?_⟩|refine⟨fun _=>?_,fun _=>?_⟩|refine zn ?_|refine zb rfl ?_|refine zX ?_|refine zo rfl ?_|refine zs ?_|intro _));all_goals(try(conv=>whnf))
    all_goals first
     |exact a0J rfl
     |exact a0J (by assumption)
     | (exfalso
        have e1:x1=true:=by assumption
        have e2:x2=true:=by assumption
        have e3:x3=true:=by assumption
        have e4:x4=true:=by assumption
        rw[e1,e2,e3,e4] at hh';exact absurd hh' (by decide))
def a5R(nres C:Int):Int->List Sec->Bool
 |_,[]=>true
 |last,s ::ss=>decide (0<=s.res)&&(decide (s.res<nres)&&(decide (1<=s.len)&&(decide (s.len<=200)&&(decide (last<s.at_)&&(decide (s.at_<C)&&a5R nres C s.at_ ss)))))
def b1W(t:Tk):Prop:=1<=t.C/\t.C<=t.D/\t.D<=t.T/\t.T<=200/\t.secs.length<=2
instance (t:Tk):Decidable (b1W t):=inferInstanceAs (Decidable (_/\_))
def Tk.ok(nres:Int)(t:Tk):Bool:=decide (b1W t)&&a5R nres t.C 0 t.secs
theorem b4h{t:Tk}(hh:¬b1W t):(decide (t.C<1)||(decide (t.C>t.D)||(decide (t.D>t.T)||(decide (t.T>200)||decide (((t.secs.map eS).length:Int)>2)))))=true:=by
 unfold b1W at hh;simp only[Bool.or_eq_true,decide_eq_true_eq,List.length_map];omega
theorem b7v(c:Cf)(t:Tk)(hl:t.secs.length<=1000):a0A Tryz.prog 81 [eCf c,eT t] (.p (.bool (t.ok c.res.length))):=by
 have hm:=a0M;have hwi:=fun n=>a3Z n 1 200
 unfold Tk.ok
 by_cases hh:b1W t
 ·rw[decide_eq_true hh,Bool.true_and]
  obtain⟨a1,a2,a3,a4,a5⟩:=hh;have b1:decide (t.C<1)=false:=decide_eq_false (by omega)
  have b2:decide (t.C>t.D)=false:=decide_eq_false (by omega)
  have b3:decide (t.D>t.T)=false:=decide_eq_false (by omega)
  have b4:decide (t.T>200)=false:=decide_eq_false (by omega)
  have b5:decide (((t.secs.map eS).length:Int)>2)=false:=decide_eq_false (by simp;omega)
  refine Fn.run k81 rfl ?_;generalize Tryz.prog=P at *
  (repeat'((conv=>whnf);first|exact trivial|(with_reducible first|refine zX ?_|refine zP ?_|refine zL ?_)|refine⟨rfl,?_⟩|refine⟨_,rfl,?_⟩|refine⟨fun _=>?_,fun _=>?_⟩|refine zn ?_|refine zb rfl ?_|refine zX ?_|refine zo rfl ?_|refine zs ?_|intro _));all_goals(try(conv=>whnf))
  refine a0O (fun n s=>∃(i:Nat) (last:Int),n+i=t.secs.length/\a5R c.res.length t.C last (t.secs.drop i)=a5R c.res.length t.C 0 t.secs /\
   s=⟨mkT 76 [(2,.addr 0 5 0 0),(3,.addr 1 4 0 0),(5,.p (.int .i64 last)),(37,.p (.sl 3 t.nl (t.secs.map eS))),(38,.p (.int .i64 (t.secs.map eS).length)),(39,.p (.int .i64 i))],[some (bCf c true),some (bTk t),none]⟩) t.secs.length ?_ ?_
  ·conv=>whnf
   exact⟨0,0,rfl,rfl,rfl⟩
  ·rintro n st b N ⟨i,last,hi,hI,e⟩ hN
   cases e
   by_cases hlt:i<t.secs.length
   ·have hrow:(t.secs.map eS)[i]?=some (.agg [.int .i64 t.secs[i].res,.int .i64 t.secs[i].at_,.int .i64 t.secs[i].len]):=by simp[hlt,eS]
    have hb:=a7Y (n:=(t.secs.map eS).length) (by simpa using hlt)
    rw[List.drop_eq_getElem_cons hlt] at hI;simp only[a5R] at hI;have hw:=hwi t.secs[i].len;generalize hsi:t.secs[i]=x at *
    by_cases c1:0<=x.res/\x.res<(c.res.length:Int)/\1<=x.len/\x.len<=200/\last<x.at_/\x.at_<t.C
    ·obtain⟨c1,c2,c3,c4,c5,c6⟩:=c1
     have d1:decide (x.res<0)=false:=decide_eq_false (by omega)
     have d2:decide (x.res≥((c.res.map eI).length:Int))=false:=decide_eq_false (by simp;omega)
     have d3:(decide (1<=x.len)&&decide (x.len<=200))=true:=by simp[c3,c4]
     have d4:decide (x.at_<=last)=false:=decide_eq_false (by omega)
     have d5:decide (x.at_≥t.C)=false:=decide_eq_false (by omega)
     rw[d3] at hw;rw[decide_eq_true c1,decide_eq_true c2,decide_eq_true c3,decide_eq_true c4,decide_eq_true c5,decide_eq_true c6] at hI;simp only[Bool.true_and] at hI
     (repeat'((conv=>whnf);first|exact trivial|(with_reducible first|refine zX ?_|refine zP ?_|refine zL ?_)|refine⟨rfl,?_⟩|refine⟨_,rfl,?_⟩|refine⟨fun _=>?_,fun _=>?_⟩|refine zn ?_|refine zb rfl ?_|refine zX ?_|refine zo rfl ?_|refine zs ?_|intro _));all_goals(try(conv=>whnf))
     rw[a2F (n:=t.secs.length) hlt (by omega)]
     exact hN (n-1) _ (by omega) ⟨i+1,x.at_,by omega,hI,rfl⟩
    ·have hfalse:a5R c.res.length t.C 0 t.secs=false:=by
      rw[<-hI];simp only[Bool.and_eq_false_iff,decide_eq_false_iff_not];omega
     rw[hfalse]
     have hno:(decide (x.res<0)||(decide (x.res≥((c.res.map eI).length:Int))||(!(decide (1<=x.len)&&decide (x.len<=200))||(decide (x.at_<=last)||decide (x.at_≥t.C)))))=true:=by
      simp only[Bool.or_eq_true,decide_eq_true_eq,List.length_map,Bool.not_eq_true',Bool.and_eq_false_iff,decide_eq_false_iff_not];omega
     generalize (decide (1<=x.len)&&decide (x.len<=200))=y3 at *
     (repeat'((conv=>whnf);first|exact trivial|(with_reducible first|refine zX ?_|refine zP ?_|refine zL ?_)|refine⟨rfl,?_⟩|refine⟨_,rfl,?_⟩|refine⟨fun _=>?_,fun _=>?_⟩|refine zn ?_|refine zb rfl ?_|refine zX ?_|refine zo rfl ?_|refine zs ?_|intro _));all_goals(try(conv=>whnf))
     all_goals first
      |exact a0J rfl
      | (exfalso
         have e1:decide (x.res<0)=false:=by assumption
         have e2:decide (x.res≥((c.res.map eI).length:Int))=false:=by assumption
         have e3:(!y3)=false:=by first|assumption|(simp;assumption)
         have e4:decide (x.at_<=last)=false:=by assumption
         have e5:decide (x.at_≥t.C)=false:=by assumption
         rw[e1,e2,e3,e4,e5] at hno;exact absurd hno (by decide))
   ·have hb:=a8R (n:=(t.secs.map eS).length) (by simpa using hlt)
    rw[List.drop_of_length_le (by omega)] at hI
    rw[<-hI]
    (repeat'((conv=>whnf);first|exact trivial|(with_reducible first|refine zX ?_|refine zP ?_|refine zL ?_)|refine⟨rfl,?_⟩|refine⟨_,rfl,?_⟩|refine⟨fun _=>?_,fun _=>?_⟩|refine zn ?_|refine zb rfl ?_|refine zX ?_|refine zo rfl ?_|refine zs ?_|intro _));all_goals(try(conv=>whnf))
    exact a0J rfl
 ·rw[decide_eq_false hh,Bool.false_and]
  have hno:=b4h hh;refine Fn.run k81 rfl ?_;generalize Tryz.prog=P at *
  (repeat'((conv=>whnf);first|exact trivial|(with_reducible first|refine zX ?_|refine zP ?_|refine zL ?_)|refine⟨rfl,?_⟩|refine⟨_,rfl,?_⟩|refine⟨fun _=>?_,fun _=>?_⟩|refine zn ?_|refine zb rfl ?_|refine zX ?_|refine zo rfl ?_|refine zs ?_|intro _));all_goals(try(conv=>whnf))
  all_goals first
   |exact a0J rfl
   | (exfalso
      have e1:decide (t.C<1)=false:=by assumption
      have e2:decide (t.C>t.D)=false:=by assumption
      have e3:decide (t.D>t.T)=false:=by assumption
      have e4:decide (t.T>200)=false:=by assumption
      have e5:decide (((t.secs.map eS).length:Int)>2)=false:=by assumption
      rw[e1,e2,e3,e4,e5] at hno;exact absurd hno (by decide))
open Go.RowKit Ma
section
variable {P:Program}
theorem a0i{t:TypeId}{k:IntKind}(hu:P.underlying t=some (.int k)){n:Nat}{cs:List PV}(h:RdT P n t cs):∃m,cs=[.int k m]:=by
 cases n with
 |zero=>exact h.elim
 |succ n=>unfold RdT at h;simpa only [hu] using h
theorem a3M{t:TypeId}{fs:Array Field}(hu:P.underlying t=some (.struct fs)){n:Nat}{cs:List PV}(h:RdT P n t cs):∃n',RdT.RdF (RdT P n') fs.toList cs:=by
 cases n with
 |zero=>exact h.elim
 |succ n=>unfold RdT at h;exact⟨n,by simpa only [hu] using h⟩
theorem b9t{α:Type}{f : α->PV}{rows:List PV}(h:∀row,row∈rows->∃x,row=f x):∃l:List α,rows=l.map f:=by
 induction rows with
 |nil=>exact⟨[],rfl⟩
 |cons r rs ih=>
  obtain⟨x,hx⟩:=h r (by simp)
  obtain⟨l,hl⟩:=ih fun row hr=>h row (by simp[hr])
  exact⟨x ::l,by rw[hx,hl];rfl⟩
theorem a5h{t e:TypeId}(hu:P.underlying t=some (.slice e)){n:Nat}{cs:List PV}(h:RdT P n t cs){α:Type}{f : α->PV}(hf:∀n' rcs,RdT P n' e rcs->∃x,a2J (isS P e) rcs=f x) :
  ∃nl,∃l:List α,cs=[.sl (P.cellsOf e) nl (l.map f)]/\(nl=true->l=[]):=by
 cases n with
 |zero=>exact h.elim
 |succ n=>
  unfold RdT at h;simp only[hu] at h;obtain⟨nl,rows,h1,h2,h3⟩:=h
  obtain⟨l,rfl⟩:=b9t (f:=f) (rows:=rows) fun row hr=>by
   obtain⟨rcs,hr1,hr2⟩:=h3 row hr;obtain⟨x,hx⟩:=hf n rcs hr1;exact⟨x,hr2.trans hx⟩
  exact⟨nl,l,h1,fun hn=>by simpa using h2 hn⟩
end
theorem u2:Tryz.prog.underlying 2=some (.int .i64):=by kernel_rfl
theorem u3:Tryz.prog.underlying 3=some (.int .i64):=by kernel_rfl
theorem u4:Tryz.prog.underlying 4=some .bool:=by kernel_rfl
theorem u22:Tryz.prog.underlying 22=some (.slice 3):=by kernel_rfl
theorem u25:Tryz.prog.underlying 25=some (.slice 121):=by kernel_rfl
theorem u26:Tryz.prog.underlying 26=some (.slice 64):=by kernel_rfl
theorem u52:Tryz.prog.underlying 121=some (.slice 124):=by kernel_rfl
theorem u24:Tryz.prog.underlying 24=some (.struct #[{ name := "Cores", type:=3,offset:=0,embedded:=false,tag := "", pkgPath := "", byteOffset:=0 },{ name := "Syncs", type:=3,offset:=1,embedded:=false,tag := "", pkgPath := "", byteOffset:=8 },{ name := "Lag", type:=2,offset:=2,embedded:=false,tag := "", pkgPath := "", byteOffset:=16 },{ name := "Move", type:=2,offset:=3,embedded:=false,tag := "", pkgPath := "", byteOffset:=24 },{ name := "Res", type:=22,offset:=4,embedded:=false,tag := "", pkgPath := "", byteOffset:=32 }]):=by kernel_rfl
theorem u28:Tryz.prog.underlying 28=some (.struct #[{ name := "C", type:=2,offset:=0,embedded:=false,tag := "", pkgPath := "", byteOffset:=0 },{ name := "D", type:=2,offset:=1,embedded:=false,tag := "", pkgPath := "", byteOffset:=8 },{ name := "T", type:=2,offset:=2,embedded:=false,tag := "", pkgPath := "", byteOffset:=16 },{ name := "Secs", type:=26,offset:=3,embedded:=false,tag := "", pkgPath := "", byteOffset:=24 }]):=by kernel_rfl
theorem u30:Tryz.prog.underlying 124=some (.struct #[{ name := "C", type:=2,offset:=0,embedded:=false,tag := "", pkgPath := "", byteOffset:=0 },{ name := "D", type:=2,offset:=1,embedded:=false,tag := "", pkgPath := "", byteOffset:=8 },{ name := "T", type:=2,offset:=2,embedded:=false,tag := "", pkgPath := "", byteOffset:=16 }]):=by kernel_rfl
theorem u86:Tryz.prog.underlying 64=some (.struct #[{ name := "Res", type:=3,offset:=0,embedded:=false,tag := "", pkgPath := "", byteOffset:=0 },{ name := "At", type:=2,offset:=1,embedded:=false,tag := "", pkgPath := "", byteOffset:=8 },{ name := "Len", type:=2,offset:=2,embedded:=false,tag := "", pkgPath := "", byteOffset:=16 }]):=by kernel_rfl
theorem s3:isS Tryz.prog 3=false:=by kernel_rfl
theorem s30:isS Tryz.prog 124=true:=by kernel_rfl
theorem s52:isS Tryz.prog 121=false:=by kernel_rfl
theorem s86:isS Tryz.prog 64=true:=by kernel_rfl
theorem c3:Tryz.prog.cellsOf 3=1:=by kernel_rfl
theorem c30:Tryz.prog.cellsOf 124=3:=by kernel_rfl
theorem c52:Tryz.prog.cellsOf 121=1:=by kernel_rfl
theorem c86:Tryz.prog.cellsOf 64=3:=by kernel_rfl
theorem c8F{n:Nat}{cs:List PV}(h:RdT Tryz.prog n 124 cs):∃x:Ld,a2J true cs=eL x:=by
 obtain⟨m,h⟩:=a3M u30 h;obtain⟨a,r,rfl,h1,b,r2,rfl,h2,c,r3,rfl,h3,rfl⟩:=h;obtain⟨x,rfl⟩:=a0i u2 h1;obtain⟨y,rfl⟩:=a0i u2 h2;obtain⟨z,rfl⟩:=a0i u2 h3;exact⟨⟨x,y,z⟩,rfl⟩
theorem c2b{n:Nat}{cs:List PV}(h:RdT Tryz.prog n 64 cs):∃x:Sec,a2J true cs=eS x:=by
 obtain⟨m,h⟩:=a3M u86 h;obtain⟨a,r,rfl,h1,b,r2,rfl,h2,c,r3,rfl,h3,rfl⟩:=h;obtain⟨x,rfl⟩:=a0i u3 h1;obtain⟨y,rfl⟩:=a0i u2 h2;obtain⟨z,rfl⟩:=a0i u2 h3;exact⟨⟨x,y,z⟩,rfl⟩
theorem c2X{n:Nat}{cs:List PV}(h:RdT Tryz.prog n 121 cs):∃x:Bool×List Ld,cs=[eC x]/\(x.1=true->x.2=[]):=by
 obtain⟨nl,l,rfl,hn⟩:=a5h u52 h (f:=eL) fun n' rcs hr=>by rw[s30];exact c8F hr
 exact⟨(nl,l),by rw[c30];rfl,hn⟩
theorem c8c{n:Nat}{cs:List PV}(h:RdT Tryz.prog n 25 cs):∃nl,∃ls:LL,cs=[sLL nl ls]/\(nl=true->ls=[])/\∀p,p∈ls->p.1=true->p.2=[]:=by
 obtain⟨nl,l,rfl,hn⟩:=a5h u25 h (α:={p:Bool×List Ld // p.1=true->p.2=[]}) (f:=fun p=>eC p.1) fun n' rcs hr=>by
  obtain⟨x,rfl,hx⟩:=c2X hr;rw[s52];exact⟨⟨x,hx⟩,rfl⟩
 refine⟨nl,l.map (·.1),?_,fun h=>by rw[hn h];rfl,fun p hp=>?_⟩
 ·rw[c52];simp[sLL]
 ·obtain⟨q,_,rfl⟩:=List.mem_map.1 hp
  exact q.2
theorem c9O{n:Nat}{cs:List PV}(h:RdT Tryz.prog n 24 cs):∃c:Cf,a2J true cs=eCf c/\(c.nl=true->c.res=[]):=by
 obtain⟨m,h⟩:=a3M u24 h;obtain⟨a,r,rfl,h1,b,r2,rfl,h2,c,r3,rfl,h3,d,r4,rfl,h4,e,r5,rfl,h5,rfl⟩:=h;obtain⟨x,rfl⟩:=a0i u3 h1;obtain⟨y,rfl⟩:=a0i u3 h2;obtain⟨z,rfl⟩:=a0i u2 h3;obtain⟨v,rfl⟩:=a0i u2 h4
 obtain⟨nl,l,rfl,hn⟩:=a5h u22 h5 (f:=eI) fun n' rcs hr=>by
  obtain⟨q,rfl⟩:=a0i u3 hr;rw[s3];exact⟨q,rfl⟩
 exact⟨⟨x,y,z,v,nl,l⟩,by rw[c3];rfl,hn⟩
theorem c9C{n:Nat}{cs:List PV}(h:RdT Tryz.prog n 28 cs):∃t:Tk,a2J true cs=eT t/\(t.nl=true->t.secs=[]):=by
 obtain⟨m,h⟩:=a3M u28 h;obtain⟨a,r,rfl,h1,b,r2,rfl,h2,c,r3,rfl,h3,d,r4,rfl,h4,rfl⟩:=h;obtain⟨x,rfl⟩:=a0i u2 h1;obtain⟨y,rfl⟩:=a0i u2 h2;obtain⟨z,rfl⟩:=a0i u2 h3;obtain⟨nl,l,rfl,hn⟩:=a5h u26 h4 (f:=eS) fun n' rcs hr=>by rw[s86];exact c2b hr
 exact⟨⟨x,y,z,nl,l⟩,by rw[c86];rfl,hn⟩
open Go.RowKit Go.ChangeShapes Go.WideShapes Go.ChangeAt Ma
def a9N:List (String×DataW Unit):=[("math/bits.deBruijn32tab", Rows.laid_math_bits_deBruijn32tab),("math/bits.deBruijn64tab", Rows.laid_math_bits_deBruijn64tab),("internal/strconv.uint64pow10", Rows.laid_internal_strconv_uint64pow10),
 ("unicode/utf8.acceptRanges", Rows.laid_unicode_utf8_acceptRanges),("strconv.ErrRange", Rows.laid_strconv_ErrRange),("strconv.ErrSyntax", Rows.laid_strconv_ErrSyntax),("unicode/utf8.first", Rows.laid_unicode_utf8_first)]
theorem b3I:∀w:World,laidMetH Tryz.prog a9N w=laidMet Tryz.prog a9N w:=fun w=>MakeChecks.laidMetH_plain _ _ _ (by kernel_rfl)
theorem b6H(os:Os)(args:Array Value):laidMetH Tryz.prog a9N ((World.laidAll Tryz.prog os a9N).forCall (fun _ _=>0) ⟨#[],args,[]⟩).memory:=by
 rw[b3I];exact laidMet_laidAll _ (by kernel_rfl) (by kernel_rfl)
theorem c0Q{a b:Bool}(h:a=true)(k:b=true):(a&&b)=true:=by rw[h,k];rfl
abbrev mainSum:String := "aada39efcd2bae9a899bb5c456762e7237047e2d7d47480e4901f2fc647950d7"
theorem b8y:Tryz.prog.mainIs=some (true,mainSum.toList):=by kernel_rfl
theorem b9z:true=Tryz.prog.looks []:=by kernel_rfl
theorem b9c:Tryz.prog.wantsStandIn 24=false:=by kernel_rfl
theorem b9s:Tryz.prog.wantsStandIn 25=false:=by kernel_rfl
theorem b8f:Tryz.prog.wantsStandIn 28=false:=by kernel_rfl
theorem c0k:Tryz.prog.wantsStandIn 2=false:=by kernel_rfl
theorem c1n:Tryz.prog.wantsStandIn 3=false:=by kernel_rfl
theorem c8o:ownKnob Tryz.prog.godebug=none:=by kernel_rfl
theorem b3Q:laidOutB Tryz.prog=true:=by kernel_rfl
theorem c6n:okT Tryz.prog 12 24=true:=by kernel_rfl
theorem c7K:okT Tryz.prog 12 25=true:=by kernel_rfl
theorem c7Z:okT Tryz.prog 12 28=true:=by kernel_rfl
theorem ok2:okT Tryz.prog 12 2=true:=by kernel_rfl
theorem ok3:okT Tryz.prog 12 3=true:=by kernel_rfl
theorem s24:isS Tryz.prog 24=true:=by kernel_rfl
theorem s25:isS Tryz.prog 25=false:=by kernel_rfl
theorem s28:isS Tryz.prog 28=true:=by kernel_rfl
theorem s2:isS Tryz.prog 2=false:=by kernel_rfl
theorem s4:isS Tryz.prog 4=false:=by kernel_rfl
section
variable {H:Type} {enc:TypeId×Value->H} {P:Program} {w:World} {base:Nat} {spare:Nat->Bool} {held:Bool}
theorem b2m{t:TypeId}{ts:List TypeId}{vs:List Value}{ds:List (DataW H)}{ps:List MemPlace}(h:DataW.TrodAll enc P w base spare held (t ::ts) vs ds ps) :
  ∃v vs' d ds' p q,vs=v ::vs'/\ds=d ::ds'/\ps=p++q/\DataW.Trod enc P w base spare held t v d p/\DataW.TrodAll enc P w base spare held ts vs' ds' q:=by
 cases vs with
 |nil=>exact h.elim
 |cons v vs'=>cases ds with
  |nil=>exact h.elim
  |cons d ds'=>
   obtain⟨p,q,h1,h2,h3⟩:=h;exact⟨v,vs',d,ds',p,q,rfl,rfl,h3,h1,h2⟩
theorem c5C{vs:List Value}{ds:List (DataW H)}{ps:List MemPlace}(h:DataW.TrodAll enc P w base spare held [] vs ds ps):vs=[]/\ds=[]/\ps=[]:=by
 cases vs with
 |nil=>cases ds with
  |nil=>exact⟨rfl,rfl,h⟩
  |cons d ds'=>exact h.elim
 |cons v vs'=>exact h.elim
end
theorem c4M{H:Type}{enc:TypeId×Value->H}{w:World}{base:Nat}{sp:Nat->Bool}{hd:Bool}(b:Bool):DataW.Trod enc Tryz.prog w base sp hd 4 (.bool b) (.lit (.bool b)) []:=⟨1,by simp[DataW.trod,Value.cells,u4]⟩
theorem b3B{P:Program}{f:FuncId}{args:List PV}{r:DV}(h:a0A P f args r)(hf:b7t P f)(M0:Nat->Nat->Prop)(w:World)(cargs:Array Value)(hs:cargs.size=args.length)
  (ha:∀(j:Nat) x v,args[j]?=some x->cargs[j]?=some v->Flat M0 w x v) :
  Calls P f cargs w fun e w'=>∃v X,e=.returned v/\X.w=w'/\VRel X w.heap.size (.tmp 0) r v/\(∀b,b<w.heap.size->∀o,X.M b o↔M0 b o)/\Below w.heap.size w w':=by
 rcases h.2 M0 w cargs hs ha with ⟨_,hc⟩|⟨v,X,hr,_⟩
 ·exact hc
 ·exfalso
  obtain⟨fn,h1,h2,h3⟩:=hf;have h4:fn.body≠none:=fun hb=>by rw[hb] at h2;cases h2
  simp[callFunc,h1,h3,h4] at hr
open Go.RowKit Ma
open Go.RowKit Ma
open Go.RowKit
def F19:Fn:=⟨21,3,[.cell 6 9],
 (.sr [ii 3 (.box 0 2) [.t 0],
 ⟨some 6,none,.alloc 1 9 [Z0,Z0,Z0,Z0,Z0,Z0,Z0,Z0,Z0],[]⟩]
 (.seq
 (.gp (.reg [mv 8 1,
 mv 9 2,
 ⟨some 10,none,.build [.int .i64 0,.int .i64 0,.int .i64 0,.int .i64 0,.int .i64 0,.int .i64 0,.int .i64 0,.int .i64 0,.int .i64 0] [(0,1),(1,1),(2,1)],[cI 2,.t 8,.t 9]⟩,
 ⟨some 7,none,.alloc 2 9 [Z0,Z0,Z0,Z0,Z0,Z0,Z0,Z0,Z0],[]⟩,
 ⟨none,none,.store 9,[.t 7,.t 10]⟩]) (.lay 2 9))
 (.seq
 (.sr [ii 11 (.load 2 true false) [.t 3],
 ii 12 (.load 9 true false) [.t 7],
 ii 13 (.call 53) [.t 11,.t 12]]
 (.cond (.t 13)
 (.gp (.reg [fa 14 1 3,
 ld 15 14,
 ii 16 (.iad 4) [.t 15,cI 0],
 fa 17 3 16,
 ld 18 17,
 fa 19 5 7,
 ⟨none,none,.store 1,[.t 19,.t 18]⟩]) (.lay 2 9))
 .skip))
 (.seq
 (.gp (.reg [ii 20 (.load 9 true false) [.t 7],
 ⟨none,none,.store 9,[.t 6,.t 20]⟩]) (.lay 1 9))
 .ret))))⟩
theorem k19:a0H Tryz.prog 19 F19=true:=by kernel_rfl
def F20:Fn:=⟨121,5,[.cell 10 9,.tmp 11],
 (.sr [ii 5 (.box 0 5) [.t 0],
 ii 6 (.box 1 4) [.t 1],
 ii 7 (.box 2 2) [.t 2],
 ii 8 (.box 3 9) [.t 3],
 ⟨some 10,none,.alloc 4 9 [Z0,Z0,Z0,Z0,Z0,Z0,Z0,Z0,Z0],[]⟩,
 mc 11 (.int .i64 0)]
 (.seq
 (.sr [fa 13 0 8,
 ld 14 13,
 b1 15 .neq 14 (.int .i64 2),
 mv 16 15,
 gf 17 16 (.load 2 true false) [.t 7],
 gf 18 16 (.load 9 true false) [.t 8],
 gf 19 16 (.call 53) [.t 17,.t 18],
 gf 20 16 (.un .not) [.t 19],
 ii 21 .pick [.t 16,.c (.p (.bool true)),.t 20]]
 (.cond (.t 21)
 (.seq
 (.gp (.reg [ii 22 (.load 9 true false) [.t 8],
 ⟨none,none,.store 9,[.t 10,.t 22]⟩,
 mc 11 (.int .i64 0)]) (.lay 4 9))
 .ret)
 .skip))
 (.seq
 (.gp (.reg [fa 23 5 8,
 ld 24 23,
 b1 25 .sub 24 (.int .i64 1),
 fa 26 5 8,
 ⟨none,none,.store 1,[.t 26,.t 25]⟩]) (.lay 3 9))
 (.sr [fa 27 6 8,
 ld 28 27,
 b1 29 .leq 28 (.int .i64 0),
 mt 12 29]
 (.seq
 (.sr [mv 30 12]
 (.cond (.t 30)
 (.gp (.reg [fa 31 3 8,
 ld 32 31,
 b1 33 .add 32 (.int .i64 1),
 fa 34 3 8,
 ⟨none,none,.store 1,[.t 34,.t 33]⟩]) (.lay 3 9))
 (.gp (.reg [fa 35 6 8,
 ld 36 35,
 b1 37 .sub 36 (.int .i64 1),
 fa 38 6 8,
 ⟨none,none,.store 1,[.t 38,.t 37]⟩]) (.lay 3 9))))
 (.seq
 (.block 0
 (.sr [mv 40 12,
 mv 41 40,
 gt 42 41 (.fad 3) [.t 8],
 gt 43 41 (.load 1 false false) [.t 42],
 gt 44 41 (.fad 2) [.t 8],
 gt 45 41 (.load 1 false false) [.t 44],
 gt 46 41 (.bin .eql) [.t 43,.t 45],
 ii 47 .pick [.t 41,.t 46,.c (.p (.bool false))],
 mt 39 47]
 (.cond (.t 39)
 (.seq
 (.gp (.reg [mv 48 4,
 b1 49 .add 48 (.int .i64 1),
 fa 50 0 8,
 ⟨none,none,.store 1,[.t 50,cI 4]⟩,
 fa 51 8 8,
 ⟨none,none,.store 1,[.t 51,.t 49]⟩]) (.lay 3 9))
 (.seq
 (.gp (.reg [ii 52 (.load 9 true false) [.t 8],
 ⟨none,none,.store 9,[.t 10,.t 52]⟩,
 mc 11 (.int .i64 2)]) (.lay 4 9))
 .ret))
 (.seq
 (.regd [mv 54 12,
 mv 55 54,
 gt 56 55 (.fad 7) [.t 8],
 gt 57 55 (.at 3 (.load 1 false false)) [.t 56],
 gt 58 55 (.bin .geq) [.t 57,cI 0],
 ii 59 .pick [.t 55,.t 58,.c (.p (.bool false))],
 mv 60 59,
 gt 61 60 (.fad 7) [.t 8],
 gt 62 60 (.at 3 (.load 1 false false)) [.t 61],
 gt 63 60 (.fad 3) [.t 6],
 gt 64 60 (.at 1 (.load 1 false false)) [.t 63],
 gt 65 60 .lenD [.t 64],
 gt 66 60 (.bin .lss) [.t 62,.t 65],
 ii 67 .pick [.t 60,.t 66,.c (.p (.bool false))],
 mv 68 67,
 gt 69 68 (.fad 3) [.t 6],
 gt 70 68 (.at 1 (.load 1 false false)) [.t 69],
 gt 71 68 (.fad 7) [.t 8],
 gt 72 68 (.at 3 (.load 1 false false)) [.t 71],
 gt 73 68 (.iad 3) [.t 70,.t 72],
 gt 74 68 (.fad 1) [.t 73],
 gt 75 68 (.loadp 1 false) [.t 74],
 gt 76 68 (.fad 3) [.t 8],
 gt 77 68 (.at 3 (.load 1 false false)) [.t 76],
 gt 78 68 (.bin .eql) [.t 75,.t 77],
 ii 79 .pick [.t 68,.t 78,.c (.p (.bool false))],
 mt 53 79])
 (.cond (.t 53)
 (.seq
 (.gp (.reg [fa 80 0 8,
 ⟨none,none,.store 1,[.t 80,cI 3]⟩]) (.lay 3 9))
 (.seq
 (.gp (.reg [fa 81 7 8,
 ld 82 81,
 b1 83 .add 82 (.int .i64 1),
 fa 84 7 8,
 ⟨none,none,.store 1,[.t 84,.t 83]⟩]) (.lay 3 9))
 (.seq
 (.gp (.reg [ii 85 (.load 9 true false) [.t 8],
 ⟨none,none,.store 9,[.t 10,.t 85]⟩,
 mc 11 (.int .i64 3)]) (.lay 4 9))
 .ret)))
 (.sr [fa 87 5 8,
 ld 88 87,
 b1 89 .neq 88 (.int .i64 0),
 mt 86 89]
 (.cond (.t 86)
 (.seq
 (.gp (.reg [ii 90 (.load 9 true false) [.t 8],
 ⟨none,none,.store 9,[.t 10,.t 90]⟩,
 mc 11 (.int .i64 1)]) (.lay 4 9))
 .ret)
 (.sr [fa 92 4 8,
 ld 93 92,
 fa 94 1 7,
 ld 95 94,
 ii 96 .len [.t 95],
 b1 97 .sub 96 (.int .i64 1),
 b2 98 .eql 93 97,
 mt 91 98]
 (.cond (.t 91)
 (.seq
 (.gp (.reg [mv 99 4,
 b1 100 .add 99 (.int .i64 1),
 fa 101 0 8,
 ⟨none,none,.store 1,[.t 101,cI 5]⟩,
 fa 102 8 8,
 ⟨none,none,.store 1,[.t 102,.t 100]⟩]) (.lay 3 9))
 (.seq
 (.gp (.reg [ii 103 (.load 9 true false) [.t 8],
 ⟨none,none,.store 9,[.t 10,.t 103]⟩,
 mc 11 (.int .i64 5)]) (.lay 4 9))
 .ret))
 .skip)))))))))
 (.seq
 (.gp (.reg [fa 104 4 8,
 ld 105 104,
 b1 106 .add 105 (.int .i64 1),
 fa 107 4 8,
 ⟨none,none,.store 1,[.t 107,.t 106]⟩]) (.lay 3 9))
 (.seq
 (.gp (.regd [fa 108 1 7,
 ii 109 (.at 2 (.load 1 false false)) [.t 108],
 fa 110 4 8,
 ii 111 (.at 3 (.load 1 false false)) [.t 110],
 ii 112 (.iad 4) [.t 109,.t 111],
 fa 113 3 112,
 ii 114 (.loadp 1 false) [.t 113],
 fa 115 3 5,
 ii 116 (.at 0 (.load 1 false false)) [.t 115],
 fa 117 0 8,
 ⟨none,none,.at 3 (.store 1),[.t 117,cI 1]⟩,
 fa 118 5 8,
 ⟨none,none,.at 3 (.store 1),[.t 118,.t 114]⟩,
 fa 119 6 8,
 ⟨none,none,.at 3 (.store 1),[.t 119,.t 116]⟩]) (.lay 3 9))
 (.seq
 (.gp (.reg [ii 120 (.load 9 true false) [.t 8],
 ⟨none,none,.store 9,[.t 10,.t 120]⟩,
 mc 11 (.int .i64 4)]) (.lay 4 9))
 .ret)))))))))⟩
theorem k20:a0H Tryz.prog 20 F20=true:=by kernel_rfl
def F22:Fn:=⟨16,1,[.tmp 2],
 (.sr [ii 1 (.box 0 9) [.t 0],
 mc 2 (.bool false)]
 (.sr [fa 3 0 1,
 ld 4 3,
 b1 5 .eql 4 (.int .i64 1),
 mv 6 5,
 gf 7 6 (.fad 0) [.t 1],
 gf 8 6 (.load 1 false false) [.t 7],
 gf 9 6 (.bin .eql) [.t 8,cI 2],
 ii 10 .pick [.t 6,.c (.p (.bool true)),.t 9],
 mv 11 10,
 gf 12 11 (.fad 0) [.t 1],
 gf 13 11 (.load 1 false false) [.t 12],
 gf 14 11 (.bin .eql) [.t 13,cI 3],
 ii 15 .pick [.t 11,.c (.p (.bool true)),.t 14],
 mt 2 15]
 .ret))⟩
theorem k22:a0H Tryz.prog 22 F22=true:=by kernel_rfl
def F24:Fn:=⟨19,2,[.tmp 4],
 (.sr [ii 2 (.box 0 2) [.t 0],
 ii 3 (.box 1 9) [.t 1],
 mc 4 (.int .i64 0)]
 (.seq
 (.sr [ii 5 (.load 2 true false) [.t 2],
 ii 6 (.load 9 true false) [.t 3],
 ii 7 (.call 53) [.t 5,.t 6],
 ii 8 (.un .not) [.t 7]]
 (.cond (.t 8)
 (.sr [mc 4 (.int .i64 0)]
 .ret)
 .skip))
 (.seq
 (.regd [fa 9 1 3,
 ii 10 (.at 1 (.load 1 false false)) [.t 9],
 fa 11 1 2,
 ii 12 (.at 0 (.load 1 false false)) [.t 11],
 fa 13 4 3,
 ii 14 (.at 1 (.load 1 false false)) [.t 13],
 ii 15 (.iad 4) [.t 12,.t 14],
 fa 16 1 15,
 ii 17 (.loadp 1 false) [.t 16],
 b2 18 .add 10 17,
 mt 4 18])
 .ret)))⟩
theorem k24:a0H Tryz.prog 24 F24=true:=by kernel_rfl
def F25:Fn:=⟨11,2,[.tmp 4],
 (.sr [ii 2 (.box 0 2) [.t 0],
 ii 3 (.box 1 9) [.t 1],
 mc 4 (.int .i64 0)]
 (.sr [ii 5 (.load 2 true false) [.t 2],
 fa 6 4 3,
 ld 7 6,
 fa 8 1 3,
 ld 9 8,
 ii 10 (.call 26) [.t 5,.t 7,.t 9],
 mt 4 10]
 .ret))⟩
theorem k25:a0H Tryz.prog 25 F25=true:=by kernel_rfl
def F53:Fn:=⟨16,2,[.tmp 4],
 (.sr [ii 2 (.box 0 2) [.t 0],
 ii 3 (.box 1 9) [.t 1],
 mc 4 (.bool false)]
 (.sr [fa 5 4 3,
 ld 6 5,
 b1 7 .geq 6 (.int .i64 0),
 mv 8 7,
 gt 9 8 (.fad 4) [.t 3],
 gt 10 8 (.load 1 false false) [.t 9],
 gt 11 8 (.fad 1) [.t 2],
 gt 12 8 (.load 1 false false) [.t 11],
 gt 13 8 .len [.t 12],
 gt 14 8 (.bin .lss) [.t 10,.t 13],
 ii 15 .pick [.t 8,.t 14,.c (.p (.bool false))],
 mt 4 15]
 .ret))⟩
theorem k53:a0H Tryz.prog 53 F53=true:=by kernel_rfl
def F18:Fn:=⟨58,5,[.cell 8 2,.tmp 9],
 (.sr [ii 4 (.box 0 5) [.t 0],
 ii 6 (.box 1 4) [.t 2],
 ⟨some 8,none,.alloc 2 2 [Z0,.ow 4 true []],[]⟩,
 mc 9 (.bool false)]
 (.sr [ii 15 (.load 5 true false) [.t 4],
 mv 16 1,
 ii 17 (.call 49) [.t 15,.t 16],
 mt 10 17]
 (.seq
 (.gp (.reg [ii 19 (.load 5 true false) [.t 4],
 mv 20 10,
 ii 21 (.load 4 true false) [.t 6],
 ii 22 (.call 50) [.t 19,.t 20,.t 21],
 mv 18 22,
 ii 23 (.ext 0) [.t 18],
 ii 24 (.ext 1) [.t 18],
 ⟨some 11,none,.alloc 3 2 [Z0,.ow 4 true []],[]⟩,
 ⟨none,none,.store 2,[.t 11,.t 23]⟩,
 mt 12 24]) (.lay 3 2))
 (.seq
 (.sr [mv 25 12,
 ii 26 (.un .not) [.t 25],
 mv 27 26,
 gf 28 27 (.mov false) [.t 3],
 gf 29 27 (.bin .and) [.t 28,cI 3],
 gf 30 27 (.bin .eql) [.t 29,cI 1],
 ii 31 .pick [.t 27,.c (.p (.bool true)),.t 30]]
 (.cond (.t 31)
 (.seq
 (.gp (.reg [ii 33 (.load 5 true false) [.t 4],
 mv 34 10,
 ii 35 (.load 4 true false) [.t 6],
 ii 36 (.call 51) [.t 33,.t 34,.t 35],
 mv 32 36,
 ii 37 (.ext 0) [.t 32],
 ii 38 (.ext 1) [.t 32],
 ⟨some 13,none,.alloc 4 2 [Z0,.ow 4 true []],[]⟩,
 ⟨none,none,.store 2,[.t 13,.t 37]⟩,
 mt 14 38]) (.lay 4 2))
 (.sr [mv 39 14]
 (.cond (.t 39)
 (.gp (.reg [ii 40 (.load 2 true false) [.t 13],
 ⟨none,none,.store 2,[.t 11,.t 40]⟩,
 mc 12 (.bool true)]) (.lay 3 2))
 .skip)))
 .skip))
 (.seq
 (.sr [mv 41 12,
 ii 42 (.un .not) [.t 41],
 mv 43 42,
 gf 44 43 (.mov false) [.t 3],
 gf 45 43 (.bin .and) [.t 44,cI 3],
 gf 46 43 (.bin .eql) [.t 45,cI 2],
 ii 47 .pick [.t 43,.c (.p (.bool true)),.t 46]]
 (.cond (.t 47)
 (.gp (.regd [fa 49 0 4,
 ii 50 (.at 0 (.load 1 false false)) [.t 49],
 ⟨some 51,none,.mkz 1 24 (.sl 3 true []),[.t 50,.t 50]⟩,
 ii 52 (.at 1 (.load 4 true false)) [.t 6],
 ii 53 (.pl (.call 52)) [.t 51,.t 52,cI 0],
 mv 48 53,
 ii 54 (.extp 0) [.t 48],
 ii 55 (.extp 1) [.t 48],
 ⟨none,none,.at 3 (.store 2),[.t 11,.t 54]⟩,
 mt 12 55]) (.lay 3 2))
 .skip))
 (.seq
 (.gp (.reg [ii 56 (.load 2 true false) [.t 11],
 mv 57 12,
 ⟨none,none,.store 2,[.t 8,.t 56]⟩,
 mt 9 57]) (.lay 2 2))
 .ret))))))⟩
theorem k18:a0H Tryz.prog 18 F18=true:=by kernel_rfl
def F44:Fn:=⟨2,0,[.tmp 0],
 (.sr [mc 0 (.bool false)]
 (.sr [ii 1 (.call 76) [],
 mt 0 1]
 .ret))⟩
theorem k44:a0H Tryz.prog 44 F44=true:=by kernel_rfl
def F76:Fn:=⟨182,0,[.tmp 0],
 (.sr [mc 0 (.bool false)]
 (.sr [ii 24 (.ob (.callo 109 true)) [cI 2],
 mt 1 24]
 (.sr [ii 25 (.ob (.callo 110 true)) [cI 2],
 mt 2 25]
 (.sr [ii 26 (.ob (.callo 111 true)) [cI 3],
 mt 3 26]
 (.sr [ii 27 (.ob (.callo 112 true)) [cI 1],
 mt 4 27]
 (.sr [ii 28 (.ob (.callo 60 true)) [cI 3],
 mt 5 28]
 (.seq
 (.sr [mv 29 1,
 ii 30 (.ob (.eqp false)) [.t 29,.c (.p (.atom (.pointer none)))],
 mv 31 30,
 gf 32 31 (.mov false) [.t 2],
 gf 33 31 (.ob (.eqp false)) [.t 32,.c (.p (.atom (.pointer none)))],
 ii 34 .pick [.t 31,.c (.p (.bool true)),.t 33],
 mv 35 34,
 gf 36 35 (.mov false) [.t 3],
 gf 37 35 (.ob (.eqp false)) [.t 36,.c (.p (.atom (.pointer none)))],
 ii 38 .pick [.t 35,.c (.p (.bool true)),.t 37],
 mv 39 38,
 gf 40 39 (.mov false) [.t 4],
 gf 41 39 (.ob (.eqp false)) [.t 40,.c (.p (.atom (.pointer none)))],
 ii 42 .pick [.t 39,.c (.p (.bool true)),.t 41],
 mv 43 42,
 gf 44 43 (.mov false) [.t 5],
 gf 45 43 (.ob (.eqp false)) [.t 44,.c (.p (.atom (.pointer none)))],
 ii 46 .pick [.t 43,.c (.p (.bool true)),.t 45]]
 (.cond (.t 46)
 (.sr [mc 0 (.bool false)]
 .ret)
 .skip))
 (.sr [mv 47 1,
 ⟨some 48,none,.ob (.callo 113 true),[.t 47,.c (.p (.str ⟨#[120]⟩)),cI 5,cI 1]⟩,
 mv 49 1,
 ⟨some 50,none,.ob (.callo 113 true),[.t 49,.c (.p (.str ⟨#[121]⟩)),cI 3,cI 9]⟩,
 mv 51 1,
 ⟨some 52,none,.ob (.callo 113 true),[.t 51,.c (.p (.str ⟨#[122]⟩)),cI 1,cI 1]⟩,
 mt 6 48,
 mt 7 50,
 mt 8 52]
 (.sr [mv 54 1,
 ii 55 (.ob (.callo 114 false)) [.t 54],
 mv 53 55,
 ii 56 (.ext 0) [.t 53],
 ii 57 (.ext 1) [.t 53],
 mt 9 56,
 mt 10 57]
 (.sr [mv 58 2,
 ii 59 (.ob (.callo 115 false)) [.t 58,cI 4],
 mv 60 2,
 ii 61 (.ob (.callo 115 false)) [.t 60,cI 5],
 mt 11 59,
 mt 12 61]
 (.sr [mv 63 2,
 ii 64 (.ob (.callo 116 false)) [.t 63],
 mv 62 64,
 ii 65 (.ext 0) [.t 62],
 ii 66 (.ext 1) [.t 62],
 mt 13 65,
 mt 14 66]
 (.sr [mv 67 3,
 ⟨some 68,none,.ob (.callo 117 false),[.t 67,.c (.p (.str ⟨#[97]⟩))]⟩,
 mv 69 3,
 ⟨some 70,none,.ob (.callo 117 false),[.t 69,.c (.p (.str ⟨#[98]⟩))]⟩,
 mt 15 68,
 mt 16 70]
 (.sr [mv 71 3,
 ii 72 (.ob (.callo 118 false)) [.t 71,cI 1]]
 (.sr [mv 73 4,
 ii 74 (.ob (.callo 119 false)) [.t 73,cI 7],
 mv 75 4,
 ii 76 (.ob (.callo 119 false)) [.t 75,cI 8],
 mt 17 74,
 mt 18 76]
 (.sr [ii 78 (.ob (.callo 112 true)) [cI 1],
 mv 79 4,
 ii 80 (.ob (.callo 120 false)) [.t 78,.t 79],
 mv 77 80,
 ii 81 (.ext 0) [.t 77],
 ii 82 (.ext 1) [.t 77],
 mt 19 81,
 mt 20 82]
 (.sr [mv 83 5,
 ii 84 (.ob (.callo 91 true)) [.t 83,cI 9,cI 4],
 mt 21 84]
 (.sr [mv 85 5,
 ii 86 (.ob (.callo 63 false)) [.t 85,cI 4],
 mv 87 5,
 ii 88 (.ob (.callo 63 false)) [.t 87,cI 9],
 mt 22 86,
 mt 23 88]
 (.sr [ii 89 (.call 121) [],
 mv 90 89,
 gt 91 90 (.mov false) [.t 6],
 ii 92 .pick [.t 90,.t 91,.c (.p (.bool false))],
 mv 93 92,
 gt 94 93 (.mov false) [.t 7],
 ii 95 .pick [.t 93,.t 94,.c (.p (.bool false))],
 mv 96 95,
 gt 97 96 (.mov false) [.t 8],
 gt 98 96 (.un .not) [.t 97],
 ii 99 .pick [.t 96,.t 98,.c (.p (.bool false))],
 mv 100 99,
 gt 101 100 (.mov false) [.t 10],
 ii 102 .pick [.t 100,.t 101,.c (.p (.bool false))],
 mv 103 102,
 gt 104 103 (.mov false) [.t 9],
 ⟨some 105,(some (103,true)),.bin .eql,[.t 104,.c (.p (.str ⟨#[121]⟩))]⟩,
 ii 106 .pick [.t 103,.t 105,.c (.p (.bool false))],
 mv 107 106,
 gt 108 107 (.mov false) [.t 11],
 ii 109 .pick [.t 107,.t 108,.c (.p (.bool false))],
 mv 110 109,
 gt 111 110 (.mov false) [.t 12],
 ii 112 .pick [.t 110,.t 111,.c (.p (.bool false))],
 mv 113 112,
 gt 114 113 (.mov false) [.t 14],
 ii 115 .pick [.t 113,.t 114,.c (.p (.bool false))],
 mv 116 115,
 gt 117 116 (.mov false) [.t 13],
 gt 118 116 (.bin .eql) [.t 117,cI 4],
 ii 119 .pick [.t 116,.t 118,.c (.p (.bool false))],
 mv 120 119,
 gt 121 120 (.mov false) [.t 15],
 gt 122 120 (.bin .eql) [.t 121,cI 1],
 ii 123 .pick [.t 120,.t 122,.c (.p (.bool false))],
 mv 124 123,
 gt 125 124 (.mov false) [.t 16],
 gt 126 124 (.bin .eql) [.t 125,cI 2],
 ii 127 .pick [.t 124,.t 126,.c (.p (.bool false))],
 mv 128 127,
 gt 129 128 (.mov false) [.t 3],
 ⟨some 130,(some (128,true)),.ob (.callo 117 false),[.t 129,.c (.p (.str ⟨#[99]⟩))]⟩,
 gt 131 128 (.bin .eql) [.t 130,cI 1],
 ii 132 .pick [.t 128,.t 131,.c (.p (.bool false))],
 mv 133 132,
 gt 134 133 (.mov false) [.t 17],
 ii 135 .pick [.t 133,.t 134,.c (.p (.bool false))],
 mv 136 135,
 gt 137 136 (.mov false) [.t 18],
 gt 138 136 (.un .not) [.t 137],
 ii 139 .pick [.t 136,.t 138,.c (.p (.bool false))],
 mv 140 139,
 gt 141 140 (.mov false) [.t 19],
 gt 142 140 (.bin .eql) [.t 141,cI 7],
 ii 143 .pick [.t 140,.t 142,.c (.p (.bool false))],
 mv 144 143,
 gt 145 144 (.mov false) [.t 20],
 gt 146 144 (.bin .eql) [.t 145,cI 2],
 ii 147 .pick [.t 144,.t 146,.c (.p (.bool false))],
 mv 148 147,
 gt 149 148 (.mov false) [.t 21],
 ii 150 .pick [.t 148,.t 149,.c (.p (.bool false))],
 mv 151 150,
 gt 152 151 (.mov false) [.t 22],
 gt 153 151 .len [.t 152],
 gt 154 151 (.bin .eql) [.t 153,cI 1],
 ii 155 .pick [.t 151,.t 154,.c (.p (.bool false))],
 mv 156 155,
 gt 157 156 (.mov false) [.t 22],
 gt 158 156 (.iad 1) [.t 157,cI 0],
 gt 159 156 (.load 1 false false) [.t 158],
 gt 160 156 (.bin .eql) [.t 159,cI 9],
 ii 161 .pick [.t 156,.t 160,.c (.p (.bool false))],
 mv 162 161,
 gt 163 162 (.mov false) [.t 23],
 gt 164 162 .len [.t 163],
 gt 165 162 (.bin .eql) [.t 164,cI 0],
 ii 166 .pick [.t 162,.t 165,.c (.p (.bool false))],
 mv 167 166,
 gt 168 167 (.mov false) [.t 1],
 gt 169 167 (.ob (.callo 122 false)) [.t 168],
 gt 170 167 (.bin .eql) [.t 169,cI 2],
 ii 171 .pick [.t 167,.t 170,.c (.p (.bool false))],
 mv 172 171,
 gt 173 172 (.mov false) [.t 2],
 gt 174 172 (.ob (.callo 123 false)) [.t 173],
 gt 175 172 (.bin .eql) [.t 174,cI 1],
 ii 176 .pick [.t 172,.t 175,.c (.p (.bool false))],
 mv 177 176,
 gt 178 177 (.mov false) [.t 4],
 gt 179 177 (.ob (.callo 124 false)) [.t 178],
 gt 180 177 (.bin .eql) [.t 179,cI 0],
 ii 181 .pick [.t 177,.t 180,.c (.p (.bool false))],
 mt 0 181]
 .ret))))))))))))))))))⟩
theorem k76:a0H Tryz.prog 76 F76=true:=by kernel_rfl
def F15:Fn:=⟨150,4,[.tmp 0],
 (.sr [mc 0 (.bool false)]
 (.seq
 (.gp (.reg [⟨some 15,none,.build [.int .i64 0,.int .i64 0,.int .i64 0,.int .i64 0] [(2,1),(3,1)],[cI 5,cI 2]⟩,
 ii 16 (.bsl 4 1) [.t 15],
 ⟨some 17,none,.build [.int .i64 0,.sl 4 true []] [(0,1),(1,1)],[cI 1,.t 16]⟩,
 ⟨some 1,none,.alloc 0 2 [Z0,.ow 4 true []],[]⟩,
 ⟨none,none,.store 2,[.t 1,.t 17]⟩]) (.lay 0 2))
 (.seq
 (.gp (.reg [ii 18 (.load 2 true false) [.t 1],
 ii 19 (.call 19) [.t 18,cI 3,cI 2],
 ⟨some 2,none,.alloc 1 9 [Z0,Z0,Z0,Z0,Z0,Z0,Z0,Z0,Z0],[]⟩,
 ⟨none,none,.store 9,[.t 2,.t 19]⟩]) (.lay 1 9))
 (.seq
 (.gp (.reg [⟨some 21,none,.build [.int .i64 0,.int .i64 0,.int .i64 0,.int .i64 0,.sl 1 true []] [(0,1)],[cI 1]⟩,
 ⟨some 22,none,.build [.int .i64 0,.int .i64 0,.int .i64 0,.sl 3 true []] [(0,1),(1,1),(2,1)],[cI 2,cI 5,cI 5]⟩,
 ii 23 (.load 2 true false) [.t 1],
 ii 24 (.load 9 true false) [.t 2],
 ii 25 (.call 20) [.t 21,.t 22,.t 23,.t 24,cI 7],
 mv 20 25,
 ii 26 (.ext 0) [.t 20],
 ii 27 (.ext 1) [.t 20],
 ⟨some 3,none,.alloc 2 9 [Z0,Z0,Z0,Z0,Z0,Z0,Z0,Z0,Z0],[]⟩,
 ⟨none,none,.store 9,[.t 3,.t 26]⟩,
 mt 4 27]) (.lay 2 9))
 (.seq
 (.gp (.reg [⟨some 29,none,.build [.int .i64 0,.int .i64 0,.int .i64 0,.int .i64 0,.sl 1 true []] [(0,1)],[cI 1]⟩,
 ⟨some 30,none,.build [.int .i64 0,.int .i64 0,.int .i64 0,.sl 3 true []] [(0,1),(1,1),(2,1)],[cI 2,cI 5,cI 5]⟩,
 ii 31 (.load 2 true false) [.t 1],
 ii 32 (.load 9 true false) [.t 3],
 ii 33 (.call 20) [.t 29,.t 30,.t 31,.t 32,cI 8],
 mv 28 33,
 ii 34 (.ext 0) [.t 28],
 ii 35 (.ext 1) [.t 28],
 ⟨some 5,none,.alloc 3 9 [Z0,Z0,Z0,Z0,Z0,Z0,Z0,Z0,Z0],[]⟩,
 ⟨none,none,.store 9,[.t 5,.t 34]⟩,
 mt 6 35]) (.lay 3 9))
 (.sr [ii 36 (.ob (.callo 27 true)) [],
 ii 37 (.ob (.callo 36 true)) [],
 ii 38 (.ob (.callo 32 true)) [],
 mt 7 36,
 mt 8 37,
 mt 9 38]
 (.seq
 (.sr [mv 39 7,
 ii 40 (.ob (.eqp false)) [.t 39,.c (.p (.atom (.pointer none)))],
 mv 41 40,
 gf 42 41 (.mov false) [.t 8],
 gf 43 41 (.ob (.eqp false)) [.t 42,.c (.p (.atom (.pointer none)))],
 ii 44 .pick [.t 41,.c (.p (.bool true)),.t 43],
 mv 45 44,
 gf 46 45 (.mov false) [.t 9],
 gf 47 45 (.ob (.eqp false)) [.t 46,.c (.p (.atom (.pointer none)))],
 ii 48 .pick [.t 45,.c (.p (.bool true)),.t 47]]
 (.cond (.t 48)
 (.sr [mc 0 (.bool false)]
 .ret)
 .skip))
 (.sr [mv 49 7,
 ii 50 (.ob (.callo 28 true)) [.t 49,cI 2,cI 9]]
 (.sr [mv 51 7,
 ii 52 (.ob (.callo 28 true)) [.t 51,cI 1,cI 9]]
 (.sr [mv 53 8,
 ii 54 (.ob (.callo 37 false)) [.t 53,cI 4,cI 1],
 mt 10 54]
 (.sr [mv 56 8,
 ii 57 (.ob (.callo 38 false)) [.t 56],
 mv 55 57,
 ii 58 (.ext 0) [.t 55],
 ii 59 (.ext 1) [.t 55],
 mt 11 58,
 mt 12 59]
 (.sr [mv 60 9,
 ⟨some 61,none,.build [.int .i64 0,.int .i64 0,.int .i64 0,.int .i64 0,.int .i64 0] [(0,1),(1,1),(3,1)],[cI 2,cI 2,cI 5]⟩,
 ii 62 (.ob (.callo 33 true)) [.t 60,.t 61],
 mt 13 62]
 (.sr [mv 63 9,
 ii 64 (.ob (.callo 34 true)) [.t 63,cI 5],
 mt 14 64]
 (.sr [ii 65 (.call 43) [],
 mv 66 65,
 gt 67 66 (.call 44) [],
 ii 68 .pick [.t 66,.t 67,.c (.p (.bool false))],
 mv 69 68,
 gt 70 69 (.fad 0) [.t 2],
 gt 71 69 (.load 1 false false) [.t 70],
 gt 72 69 (.bin .eql) [.t 71,cI 2],
 ii 73 .pick [.t 69,.t 72,.c (.p (.bool false))],
 mv 74 73,
 gt 75 74 (.load 9 true false) [.t 2],
 gt 76 74 (.call 22) [.t 75],
 ii 77 .pick [.t 74,.t 76,.c (.p (.bool false))],
 mv 78 77,
 gt 79 78 (.load 2 true false) [.t 1],
 gt 80 78 (.load 9 true false) [.t 2],
 gt 81 78 (.call 25) [.t 79,.t 80],
 gt 82 78 (.bin .eql) [.t 81,cI 8],
 ii 83 .pick [.t 78,.t 82,.c (.p (.bool false))],
 mv 84 83,
 gt 85 84 (.load 2 true false) [.t 1],
 gt 86 84 (.load 9 true false) [.t 2],
 gt 87 84 (.call 24) [.t 85,.t 86],
 gt 88 84 (.bin .eql) [.t 87,cI 3],
 ii 89 .pick [.t 84,.t 88,.c (.p (.bool false))],
 mv 90 89,
 gt 91 90 (.mov false) [.t 4],
 gt 92 90 (.bin .eql) [.t 91,cI 1],
 ii 93 .pick [.t 90,.t 92,.c (.p (.bool false))],
 mv 94 93,
 gt 95 94 (.fad 3) [.t 3],
 gt 96 94 (.load 1 false false) [.t 95],
 gt 97 94 (.bin .eql) [.t 96,cI 1],
 ii 98 .pick [.t 94,.t 97,.c (.p (.bool false))],
 mv 99 98,
 gt 100 99 (.mov false) [.t 6],
 gt 101 99 (.bin .eql) [.t 100,cI 2],
 ii 102 .pick [.t 99,.t 101,.c (.p (.bool false))],
 mv 103 102,
 gt 104 103 (.fad 8) [.t 5],
 gt 105 103 (.load 1 false false) [.t 104],
 gt 106 103 (.bin .eql) [.t 105,cI 9],
 ii 107 .pick [.t 103,.t 106,.c (.p (.bool false))],
 mv 108 107,
 gt 109 108 (.mov false) [.t 7],
 gt 110 108 (.ob (.callo 30 false)) [.t 109],
 gt 111 108 (.bin .eql) [.t 110,cI 1],
 ii 112 .pick [.t 108,.t 111,.c (.p (.bool false))],
 mv 113 112,
 gt 114 113 (.mov false) [.t 7],
 gt 115 113 (.ob (.callo 29 false)) [.t 114,cI 1],
 ii 116 .pick [.t 113,.t 115,.c (.p (.bool false))],
 mv 117 116,
 gt 118 117 (.mov false) [.t 7],
 gt 119 117 (.ob (.callo 31 false)) [.t 118],
 gt 120 117 (.bin .eql) [.t 119,cI 1],
 ii 121 .pick [.t 117,.t 120,.c (.p (.bool false))],
 mv 122 121,
 gt 123 122 (.mov false) [.t 10],
 ii 124 .pick [.t 122,.t 123,.c (.p (.bool false))],
 mv 125 124,
 gt 126 125 (.mov false) [.t 11],
 gt 127 125 (.bin .eql) [.t 126,cI 4],
 ii 128 .pick [.t 125,.t 127,.c (.p (.bool false))],
 mv 129 128,
 gt 130 129 (.mov false) [.t 12],
 ii 131 .pick [.t 129,.t 130,.c (.p (.bool false))],
 mv 132 131,
 gt 133 132 (.mov false) [.t 8],
 gt 134 132 (.ob (.callo 39 false)) [.t 133],
 gt 135 132 (.bin .eql) [.t 134,cI 0],
 ii 136 .pick [.t 132,.t 135,.c (.p (.bool false))],
 mv 137 136,
 gt 138 137 (.mov false) [.t 13],
 ii 139 .pick [.t 137,.t 138,.c (.p (.bool false))],
 mv 140 139,
 gt 141 140 (.mov false) [.t 14],
 gt 142 140 .len [.t 141],
 gt 143 140 (.bin .eql) [.t 142,cI 1],
 ii 144 .pick [.t 140,.t 143,.c (.p (.bool false))],
 mv 145 144,
 gt 146 145 (.mov false) [.t 9],
 gt 147 145 (.ob (.callo 35 true)) [.t 146],
 gt 148 145 (.bin .eql) [.t 147,cI 0],
 ii 149 .pick [.t 145,.t 148,.c (.p (.bool false))],
 mt 0 149]
 .ret))))))))))))))⟩
theorem k15:a0H Tryz.prog 15 F15=true:=by kernel_rfl
open Go.RowKit
def F21:Fn:=⟨125,5,[.cell 10 9,.tmp 11],
 (.sr [ii 5 (.box 0 5) [.t 0],
 ii 6 (.box 1 4) [.t 1],
 ii 7 (.box 2 2) [.t 2],
 ii 8 (.box 3 9) [.t 3],
 ⟨some 10,none,.alloc 4 9 [Z0,Z0,Z0,Z0,Z0,Z0,Z0,Z0,Z0],[]⟩,
 mc 11 (.int .i64 0)]
 (.seq
 (.sr [fa 13 0 8,
 ld 14 13,
 b1 15 .neq 14 (.int .i64 2),
 mv 16 15,
 gf 17 16 (.fad 4) [.t 8],
 gf 18 16 (.load 1 false false) [.t 17],
 gf 19 16 (.bin .lss) [.t 18,cI 0],
 ii 20 .pick [.t 16,.c (.p (.bool true)),.t 19],
 mv 21 20,
 gf 22 21 (.fad 4) [.t 8],
 gf 23 21 (.load 1 false false) [.t 22],
 gf 24 21 (.fad 1) [.t 7],
 gf 25 21 (.load 1 false false) [.t 24],
 gf 26 21 .len [.t 25],
 gf 27 21 (.bin .geq) [.t 23,.t 26],
 ii 28 .pick [.t 21,.c (.p (.bool true)),.t 27]]
 (.cond (.t 28)
 (.seq
 (.gp (.reg [ii 29 (.load 9 true false) [.t 8],
 ⟨none,none,.store 9,[.t 10,.t 29]⟩,
 mc 11 (.int .i64 0)]) (.lay 4 9))
 .ret)
 .skip))
 (.seq
 (.gp (.reg [fa 30 5 8,
 ld 31 30,
 b1 32 .sub 31 (.int .i64 1),
 fa 33 5 8,
 ⟨none,none,.store 1,[.t 33,.t 32]⟩]) (.lay 3 9))
 (.sr [fa 34 6 8,
 ld 35 34,
 b1 36 .gtr 35 (.int .i64 0),
 mt 12 36]
 (.seq
 (.sr [mv 37 12]
 (.cond (.t 37)
 (.gp (.reg [fa 38 6 8,
 ld 39 38,
 b1 40 .sub 39 (.int .i64 1),
 fa 41 6 8,
 ⟨none,none,.store 1,[.t 41,.t 40]⟩]) (.lay 3 9))
 (.gp (.reg [fa 42 3 8,
 ld 43 42,
 b1 44 .add 43 (.int .i64 1),
 fa 45 3 8,
 ⟨none,none,.store 1,[.t 45,.t 44]⟩]) (.lay 3 9))))
 (.seq
 (.block 0
 (.sr [mv 47 12,
 ii 48 (.un .not) [.t 47],
 mv 49 48,
 gt 50 49 (.fad 3) [.t 8],
 gt 51 49 (.load 1 false false) [.t 50],
 gt 52 49 (.fad 2) [.t 8],
 gt 53 49 (.load 1 false false) [.t 52],
 gt 54 49 (.bin .eql) [.t 51,.t 53],
 ii 55 .pick [.t 49,.t 54,.c (.p (.bool false))],
 mt 46 55]
 (.cond (.t 46)
 (.seq
 (.gp (.reg [mv 56 4,
 b1 57 .add 56 (.int .i64 1),
 fa 58 0 8,
 ⟨none,none,.store 1,[.t 58,cI 4]⟩,
 fa 59 8 8,
 ⟨none,none,.store 1,[.t 59,.t 57]⟩]) (.lay 3 9))
 (.seq
 (.gp (.reg [ii 60 (.load 9 true false) [.t 8],
 ⟨none,none,.store 9,[.t 10,.t 60]⟩,
 mc 11 (.int .i64 2)]) (.lay 4 9))
 .ret))
 (.seq
 (.regd [mv 62 12,
 ii 63 (.un .not) [.t 62],
 mv 64 63,
 gt 65 64 (.fad 7) [.t 8],
 gt 66 64 (.at 3 (.load 1 false false)) [.t 65],
 gt 67 64 (.fad 3) [.t 6],
 gt 68 64 (.at 1 (.load 1 false false)) [.t 67],
 gt 69 64 .lenD [.t 68],
 gt 70 64 (.bin .lss) [.t 66,.t 69],
 ii 71 .pick [.t 64,.t 70,.c (.p (.bool false))],
 mv 72 71,
 gt 73 72 (.fad 3) [.t 6],
 gt 74 72 (.at 1 (.load 1 false false)) [.t 73],
 gt 75 72 (.fad 7) [.t 8],
 gt 76 72 (.at 3 (.load 1 false false)) [.t 75],
 gt 77 72 (.iad 3) [.t 74,.t 76],
 gt 78 72 (.fad 1) [.t 77],
 gt 79 72 (.loadp 1 false) [.t 78],
 gt 80 72 (.fad 3) [.t 8],
 gt 81 72 (.at 3 (.load 1 false false)) [.t 80],
 gt 82 72 (.bin .eql) [.t 79,.t 81],
 ii 83 .pick [.t 72,.t 82,.c (.p (.bool false))],
 mt 61 83])
 (.cond (.t 61)
 (.seq
 (.gp (.reg [fa 84 0 8,
 ⟨none,none,.store 1,[.t 84,cI 3]⟩]) (.lay 3 9))
 (.seq
 (.gp (.reg [fa 85 7 8,
 ld 86 85,
 b1 87 .add 86 (.int .i64 1),
 fa 88 7 8,
 ⟨none,none,.store 1,[.t 88,.t 87]⟩]) (.lay 3 9))
 (.seq
 (.gp (.reg [ii 89 (.load 9 true false) [.t 8],
 ⟨none,none,.store 9,[.t 10,.t 89]⟩,
 mc 11 (.int .i64 3)]) (.lay 4 9))
 .ret)))
 (.sr [fa 91 5 8,
 ld 92 91,
 b1 93 .gtr 92 (.int .i64 0),
 mt 90 93]
 (.cond (.t 90)
 (.seq
 (.gp (.reg [ii 94 (.load 9 true false) [.t 8],
 ⟨none,none,.store 9,[.t 10,.t 94]⟩,
 mc 11 (.int .i64 1)]) (.lay 4 9))
 .ret)
 (.sr [fa 96 4 8,
 ld 97 96,
 b1 98 .add 97 (.int .i64 1),
 fa 99 1 7,
 ld 100 99,
 ii 101 .len [.t 100],
 b2 102 .eql 98 101,
 mt 95 102]
 (.cond (.t 95)
 (.seq
 (.gp (.reg [mv 103 4,
 b1 104 .add 103 (.int .i64 1),
 fa 105 0 8,
 ⟨none,none,.store 1,[.t 105,cI 5]⟩,
 fa 106 8 8,
 ⟨none,none,.store 1,[.t 106,.t 104]⟩]) (.lay 3 9))
 (.seq
 (.gp (.reg [ii 107 (.load 9 true false) [.t 8],
 ⟨none,none,.store 9,[.t 10,.t 107]⟩,
 mc 11 (.int .i64 5)]) (.lay 4 9))
 .ret))
 .skip)))))))))
 (.seq
 (.gp (.reg [fa 108 4 8,
 ld 109 108,
 b1 110 .add 109 (.int .i64 1),
 fa 111 4 8,
 ⟨none,none,.store 1,[.t 111,.t 110]⟩]) (.lay 3 9))
 (.seq
 (.gp (.regd [fa 112 1 7,
 ii 113 (.at 2 (.load 1 false false)) [.t 112],
 fa 114 4 8,
 ii 115 (.at 3 (.load 1 false false)) [.t 114],
 ii 116 (.iad 4) [.t 113,.t 115],
 fa 117 3 116,
 ii 118 (.loadp 1 false) [.t 117],
 fa 119 3 5,
 ii 120 (.at 0 (.load 1 false false)) [.t 119],
 fa 121 0 8,
 ⟨none,none,.at 3 (.store 1),[.t 121,cI 1]⟩,
 fa 122 5 8,
 ⟨none,none,.at 3 (.store 1),[.t 122,.t 118]⟩,
 fa 123 6 8,
 ⟨none,none,.at 3 (.store 1),[.t 123,.t 120]⟩]) (.lay 3 9))
 (.seq
 (.gp (.reg [ii 124 (.load 9 true false) [.t 8],
 ⟨none,none,.store 9,[.t 10,.t 124]⟩,
 mc 11 (.int .i64 4)]) (.lay 4 9))
 .ret)))))))))⟩
theorem k21:a0H Tryz.prog 21 F21=true:=by kernel_rfl
def F23:Fn:=⟨11,1,[.tmp 2],
 (.sr [ii 1 (.box 0 9) [.t 0],
 mc 2 (.bool false)]
 (.sr [fa 3 0 1,
 ld 4 3,
 b1 5 .geq 4 (.int .i64 1),
 mv 6 5,
 gt 7 6 (.fad 0) [.t 1],
 gt 8 6 (.load 1 false false) [.t 7],
 gt 9 6 (.bin .leq) [.t 8,cI 3],
 ii 10 .pick [.t 6,.t 9,.c (.p (.bool false))],
 mt 2 10]
 .ret))⟩
theorem k23:a0H Tryz.prog 23 F23=true:=by kernel_rfl
def F4:Fn:=⟨122,6,[.tmp 12],
 (.sr [ii 6 (.box 0 5) [.t 0],
 ii 8 (.box 1 4) [.t 2],
 ii 10 (.box 2 9) [.t 4],
 mc 12 (.bool false)]
 (.sr [ii 20 (.call 15) [],
 mt 13 20]
 (.seq
 (.sr [mv 21 13,
 ii 22 (.un .not) [.t 21]]
 (.cond (.t 22)
 (.sr [mc 12 (.bool false)]
 .ret)
 .skip))
 (.seq
 (.gp (.reg [ii 23 (.load 5 true false) [.t 6],
 ii 24 (.call 16) [.t 23],
 ⟨none,none,.store 5,[.t 6,.t 24]⟩]) (.lay 0 5))
 (.seq
 (.gp (.reg [ii 26 (.load 5 true false) [.t 6],
 ii 27 (.load 4 true false) [.t 8],
 ii 28 (.call 17) [.t 26,.t 27],
 mv 25 28,
 ii 29 (.ext 0) [.t 25],
 ii 30 (.ext 1) [.t 25],
 ⟨none,none,.store 4,[.t 8,.t 29]⟩,
 mt 14 30]) (.lay 1 4))
 (.seq
 (.sr [mv 31 14,
 ii 32 (.un .not) [.t 31],
 mv 33 32,
 gf 34 33 (.mov false) [.t 5],
 gf 35 33 (.bin .lss) [.t 34,cI 0],
 ii 36 .pick [.t 33,.c (.p (.bool true)),.t 35],
 mv 37 36,
 gf 38 37 (.mov false) [.t 5],
 gf 39 37 (.bin .gtr) [.t 38,cI 1099511627776],
 ii 40 .pick [.t 37,.c (.p (.bool true)),.t 39]]
 (.cond (.t 40)
 (.sr [mc 12 (.bool true)]
 .ret)
 .skip))
 (.seq
 (.gp (.reg [ii 42 (.load 5 true false) [.t 6],
 mv 43 1,
 ii 44 (.load 4 true false) [.t 8],
 mv 45 3,
 ii 46 (.call 18) [.t 42,.t 43,.t 44,.t 45],
 mv 41 46,
 ii 47 (.ext 0) [.t 41],
 ii 48 (.ext 1) [.t 41],
 ⟨some 15,none,.alloc 3 2 [Z0,.ow 4 true []],[]⟩,
 ⟨none,none,.store 2,[.t 15,.t 47]⟩,
 mt 14 48]) (.lay 3 2))
 (.seq
 (.sr [mv 49 14,
 ii 50 (.un .not) [.t 49],
 mv 51 50,
 gf 52 51 (.fad 5) [.t 10],
 gf 53 51 (.load 1 false false) [.t 52],
 gf 54 51 (.bin .lss) [.t 53,cI 1],
 ii 55 .pick [.t 51,.c (.p (.bool true)),.t 54],
 mv 56 55,
 gf 57 56 (.fad 6) [.t 10],
 gf 58 56 (.load 1 false false) [.t 57],
 gf 59 56 (.bin .lss) [.t 58,cI 0],
 ii 60 .pick [.t 56,.c (.p (.bool true)),.t 59],
 mv 61 60,
 gf 62 61 (.fad 3) [.t 10],
 gf 63 61 (.load 1 false false) [.t 62],
 gf 64 61 (.bin .lss) [.t 63,cI 0],
 ii 65 .pick [.t 61,.c (.p (.bool true)),.t 64],
 mv 66 65,
 gf 67 66 (.fad 7) [.t 10],
 gf 68 66 (.load 1 false false) [.t 67],
 gf 69 66 (.bin .lss) [.t 68,cI 0],
 ii 70 .pick [.t 66,.c (.p (.bool true)),.t 69],
 mv 71 70,
 gf 72 71 (.fad 5) [.t 10],
 gf 73 71 (.load 1 false false) [.t 72],
 gf 74 71 (.bin .gtr) [.t 73,cI 1000],
 ii 75 .pick [.t 71,.c (.p (.bool true)),.t 74],
 mv 76 75,
 gf 77 76 (.fad 3) [.t 10],
 gf 78 76 (.load 1 false false) [.t 77],
 gf 79 76 (.bin .gtr) [.t 78,cI 1000],
 ii 80 .pick [.t 76,.c (.p (.bool true)),.t 79],
 mv 81 80,
 gf 82 81 (.fad 3) [.t 10],
 gf 83 81 (.load 1 false false) [.t 82],
 gf 84 81 (.fad 2) [.t 10],
 gf 85 81 (.load 1 false false) [.t 84],
 gf 86 81 (.bin .geq) [.t 83,.t 85],
 ii 87 .pick [.t 81,.c (.p (.bool true)),.t 86]]
 (.cond (.t 87)
 (.sr [mv 88 14,
 mt 12 88]
 .ret)
 .skip))
 (.seq
 (.gp (.reg [ii 90 (.load 5 true false) [.t 6],
 ii 91 (.load 4 true false) [.t 8],
 ii 92 (.load 2 true false) [.t 15],
 ii 93 (.load 9 true false) [.t 10],
 mv 94 5,
 ii 95 (.call 20) [.t 90,.t 91,.t 92,.t 93,.t 94],
 mv 89 95,
 ii 96 (.ext 0) [.t 89],
 ii 97 (.ext 1) [.t 89],
 ⟨some 16,none,.alloc 4 9 [Z0,Z0,Z0,Z0,Z0,Z0,Z0,Z0,Z0],[]⟩,
 ⟨none,none,.store 9,[.t 16,.t 96]⟩,
 mt 17 97]) (.lay 4 9))
 (.seq
 (.gp (.reg [ii 99 (.load 5 true false) [.t 6],
 ii 100 (.load 4 true false) [.t 8],
 ii 101 (.load 2 true false) [.t 15],
 ii 102 (.load 9 true false) [.t 10],
 mv 103 5,
 ii 104 (.call 21) [.t 99,.t 100,.t 101,.t 102,.t 103],
 mv 98 104,
 ii 105 (.ext 0) [.t 98],
 ii 106 (.ext 1) [.t 98],
 ⟨some 18,none,.alloc 5 9 [Z0,Z0,Z0,Z0,Z0,Z0,Z0,Z0,Z0],[]⟩,
 ⟨none,none,.store 9,[.t 18,.t 105]⟩,
 mt 19 106]) (.lay 5 9))
 (.seq
 (.regd [ii 107 (.at 4 (.load 9 true false)) [.t 16],
 ii 108 (.at 5 (.load 9 true false)) [.t 18],
 ii 109 (.eqs 9 false) [.t 107,.t 108],
 mv 110 109,
 gt 111 110 (.mov false) [.t 17],
 gt 112 110 (.mov false) [.t 19],
 gt 113 110 (.bin .eql) [.t 111,.t 112],
 ii 114 .pick [.t 110,.t 113,.c (.p (.bool false))],
 mv 115 114,
 gt 116 115 (.at 2 (.load 9 true false)) [.t 10],
 gt 117 115 (.pl (.call 22)) [.t 116],
 gt 118 115 (.at 2 (.load 9 true false)) [.t 10],
 gt 119 115 (.pl (.call 23)) [.t 118],
 gt 120 115 (.eqb false) [.t 117,.t 119],
 ii 121 .pick [.t 115,.t 120,.c (.p (.bool false))],
 mt 12 121])
 .ret)))))))))))⟩
theorem k4:a0H Tryz.prog 4 F4=true:=by kernel_rfl
def F3:Fn:=⟨212,8,[.tmp 12],
 (.sr [ii 6 (.box 0 5) [.t 0],
 ii 8 (.box 1 4) [.t 2],
 mc 12 (.bool false)]
 (.sr [ii 25 (.call 15) [],
 mt 13 25]
 (.seq
 (.sr [mv 26 13,
 ii 27 (.un .not) [.t 26]]
 (.cond (.t 27)
 (.sr [mc 12 (.bool false)]
 .ret)
 .skip))
 (.seq
 (.gp (.reg [ii 28 (.load 5 true false) [.t 6],
 ii 29 (.call 16) [.t 28],
 ⟨none,none,.store 5,[.t 6,.t 29]⟩]) (.lay 0 5))
 (.seq
 (.gp (.reg [ii 31 (.load 5 true false) [.t 6],
 ii 32 (.load 4 true false) [.t 8],
 ii 33 (.call 17) [.t 31,.t 32],
 mv 30 33,
 ii 34 (.ext 0) [.t 30],
 ii 35 (.ext 1) [.t 30],
 ⟨none,none,.store 4,[.t 8,.t 34]⟩,
 mt 14 35]) (.lay 1 4))
 (.seq
 (.sr [mv 36 14,
 ii 37 (.un .not) [.t 36],
 mv 38 37,
 gf 39 38 (.mov false) [.t 4],
 gf 40 38 (.bin .lss) [.t 39,cI 0],
 ii 41 .pick [.t 38,.c (.p (.bool true)),.t 40],
 mv 42 41,
 gf 43 42 (.mov false) [.t 4],
 gf 44 42 (.bin .gtr) [.t 43,cI 1073741824],
 ii 45 .pick [.t 42,.c (.p (.bool true)),.t 44],
 mv 46 45,
 gf 47 46 (.mov false) [.t 5],
 gf 48 46 (.bin .lss) [.t 47,cI 1],
 ii 49 .pick [.t 46,.c (.p (.bool true)),.t 48],
 mv 50 49,
 gf 51 50 (.mov false) [.t 5],
 gf 52 50 (.bin .gtr) [.t 51,cI 300],
 ii 53 .pick [.t 50,.c (.p (.bool true)),.t 52]]
 (.cond (.t 53)
 (.sr [mc 12 (.bool true)]
 .ret)
 .skip))
 (.seq
 (.gp (.reg [ii 55 (.load 5 true false) [.t 6],
 mv 56 1,
 ii 57 (.load 4 true false) [.t 8],
 mv 58 3,
 ii 59 (.call 18) [.t 55,.t 56,.t 57,.t 58],
 mv 54 59,
 ii 60 (.ext 0) [.t 54],
 ii 61 (.ext 1) [.t 54],
 ⟨some 15,none,.alloc 2 2 [Z0,.ow 4 true []],[]⟩,
 ⟨none,none,.store 2,[.t 15,.t 60]⟩,
 mt 14 61]) (.lay 2 2))
 (.seq
 (.sr [mv 62 14,
 ii 63 (.un .not) [.t 62],
 mv 64 63,
 gf 65 64 (.fad 1) [.t 15],
 gf 66 64 (.load 1 false false) [.t 65],
 gf 67 64 .len [.t 66],
 gf 68 64 (.bin .eql) [.t 67,cI 0],
 ii 69 .pick [.t 64,.c (.p (.bool true)),.t 68]]
 (.cond (.t 69)
 (.sr [mc 12 (.bool false)]
 .ret)
 .skip))
 (.seq
 (.gp (.reg [ii 70 (.load 2 true false) [.t 15],
 mv 71 4,
 mv 72 5,
 ii 73 (.call 19) [.t 70,.t 71,.t 72],
 ⟨some 16,none,.alloc 3 9 [Z0,Z0,Z0,Z0,Z0,Z0,Z0,Z0,Z0],[]⟩,
 ⟨none,none,.store 9,[.t 16,.t 73]⟩]) (.lay 3 9))
 (.seq
 (.gp (.reg [mv 74 4,
 mv 75 5,
 fa 76 1 15,
 ld 77 76,
 ii 78 (.iad 4) [.t 77,cI 0],
 fa 79 3 78,
 ld 80 79,
 ⟨some 81,none,.build [.int .i64 0,.int .i64 0,.int .i64 0,.int .i64 0,.int .i64 0,.int .i64 0,.int .i64 0,.int .i64 0,.int .i64 0] [(0,1),(1,1),(2,1),(5,1)],[cI 2,.t 74,.t 75,.t 80]⟩,
 ⟨some 17,none,.alloc 4 9 [Z0,Z0,Z0,Z0,Z0,Z0,Z0,Z0,Z0],[]⟩,
 ⟨none,none,.store 9,[.t 17,.t 81]⟩]) (.lay 4 9))
 (.seq
 (.sr [ii 82 (.load 9 true false) [.t 16],
 ii 83 (.load 9 true false) [.t 17],
 ii 84 (.eqs 9 true) [.t 82,.t 83]]
 (.cond (.t 84)
 (.sr [mc 12 (.bool false)]
 .ret)
 .skip))
 (.seq
 (.sr [mv 85 4,
 mt 18 85]
 (.block 0
 (.loop [0,1,2,3,12,13,14,17,19,20,21,22,23,24,25,26,27,28,29,30,31,32,33,34,35,36,37,38,39,40,41,42,43,44,45,46,47,48,49,50,51,52,53,54,55,56,57,58,59,60,61,62,63,64,65,66,67,68,69,70,71,72,73,74,75,76,77,78,79,80,81,82,83,84,85,86,87,88,89,90,91,92,93,94,95,96,97,98,99,100,101,102,103,104,105,106,107,108,109,110,111,112,113,114,115,116,117,118,119,120,121,122,123,124,125,126,127,128,129,130,131,132,133,134,135,136,137,138,139,140,141,142,143,144,145,146,147,148,149,150,151,152,153,154,155,156,157,158,159,160,161,162,163,164,165,166,167,168,169,170,171,172,173,174,175,176,177,178,179,180,181,182,183,184,185,186,187,188,189,190,191,192,193,194,195,196,197,198,199,200,201,202,203,204,205,206,207,208,209,210,211] [5,6,7]
 (.seq
 (.sr [mv 86 18,
 mv 87 4,
 b1 88 .add 87 (.int .i64 500),
 b2 89 .lss 86 88]
 (.cond (.t 89)
 .skip
 (.exit 0)))
 (.seq
 (.block 1
 (.seq
 (.gp (.reg [ii 93 (.load 5 true false) [.t 6],
 ii 94 (.load 4 true false) [.t 8],
 ii 95 (.load 2 true false) [.t 15],
 ii 96 (.load 9 true false) [.t 16],
 mv 97 18,
 ii 98 (.call 20) [.t 93,.t 94,.t 95,.t 96,.t 97],
 mv 92 98,
 ii 99 (.ext 0) [.t 92],
 ii 100 (.ext 1) [.t 92],
 ⟨some 19,none,.alloc 5 9 [Z0,Z0,Z0,Z0,Z0,Z0,Z0,Z0,Z0],[]⟩,
 ⟨none,none,.store 9,[.t 19,.t 99]⟩,
 mt 20 100]) (.lay 5 9))
 (.seq
 (.gp (.reg [ii 102 (.load 5 true false) [.t 6],
 ii 103 (.load 4 true false) [.t 8],
 ii 104 (.load 2 true false) [.t 15],
 ii 105 (.load 9 true false) [.t 16],
 mv 106 18,
 ii 107 (.call 21) [.t 102,.t 103,.t 104,.t 105,.t 106],
 mv 101 107,
 ii 108 (.ext 0) [.t 101],
 ii 109 (.ext 1) [.t 101],
 ⟨some 21,none,.alloc 6 9 [Z0,Z0,Z0,Z0,Z0,Z0,Z0,Z0,Z0],[]⟩,
 ⟨none,none,.store 9,[.t 21,.t 108]⟩,
 mt 22 109]) (.lay 6 9))
 (.seq
 (.seq
 (.regd [ii 110 (.at 5 (.load 9 true false)) [.t 19],
 ii 111 (.at 6 (.load 9 true false)) [.t 21],
 ii 112 (.eqs 9 true) [.t 110,.t 111],
 mv 113 112,
 gf 114 113 (.mov false) [.t 20],
 gf 115 113 (.mov false) [.t 22],
 gf 116 113 (.bin .neq) [.t 114,.t 115],
 ii 117 .pick [.t 113,.c (.p (.bool true)),.t 116],
 mv 118 117,
 gf 119 118 (.at 5 (.load 9 true false)) [.t 19],
 gf 120 118 (.pl (.call 22)) [.t 119],
 gf 121 118 (.at 5 (.load 9 true false)) [.t 19],
 gf 122 118 (.pl (.call 23)) [.t 121],
 gf 123 118 (.eqb true) [.t 120,.t 122],
 ii 124 .pick [.t 118,.c (.p (.bool true)),.t 123]])
 (.cond (.t 124)
 (.sr [mc 12 (.bool false)]
 .ret)
 .skip))
 (.seq
 (.seq
 (.regd [ii 125 (.at 5 (.load 9 true false)) [.t 19],
 ii 126 (.pl (.call 22)) [.t 125],
 mv 127 126,
 gt 128 127 (.at 2 (.load 2 true false)) [.t 15],
 gt 129 127 (.at 5 (.load 9 true false)) [.t 19],
 gt 130 127 (.pl (.call 24)) [.t 128,.t 129],
 gt 131 127 (.mov false) [.t 4],
 gt 132 127 (.fad 1) [.t 15],
 gt 133 127 (.at 2 (.load 1 false false)) [.t 132],
 gt 134 127 (.fad 4) [.t 19],
 gt 135 127 (.at 5 (.load 1 false false)) [.t 134],
 gt 136 127 (.iad 4) [.t 133,.t 135],
 gt 137 127 (.fad 1) [.t 136],
 gt 138 127 (.loadp 1 false) [.t 137],
 gt 139 127 (.bin .add) [.t 131,.t 138],
 gt 140 127 (.bin .neq) [.t 130,.t 139],
 gt 141 127 (.mov false) [.t 140],
 gf 142 141 (.at 2 (.load 2 true false)) [.t 15],
 gf 143 141 (.at 5 (.load 9 true false)) [.t 19],
 gf 144 141 (.pl (.call 25)) [.t 142,.t 143],
 gf 145 141 (.at 2 (.load 2 true false)) [.t 15],
 gf 146 141 (.fad 4) [.t 19],
 gf 147 141 (.at 5 (.load 1 false false)) [.t 146],
 gf 148 141 (.mov false) [.t 4],
 gf 149 141 (.pl (.call 26)) [.t 145,.t 147,.t 148],
 gf 150 141 (.bin .neq) [.t 144,.t 149],
 gt 151 127 .pick [.t 141,.c (.p (.bool true)),.t 150],
 ii 152 .pick [.t 127,.t 151,.c (.p (.bool false))]])
 (.cond (.t 152)
 (.sr [mc 12 (.bool false)]
 .ret)
 .skip))
 (.seq
 (.gp (.reg [ii 153 (.load 9 true false) [.t 19],
 ⟨none,none,.store 9,[.t 16,.t 153]⟩]) (.lay 3 9))
 (.sr [mv 154 20]
 (.block 2
 (.sr [b1 156 .eql 154 (.int .i64 2),
 mt 155 156]
 (.cond (.t 155)
 (.sr [fa 157 3 19,
 ld 158 157,
 mv 159 5,
 b2 160 .eql 158 159,
 mv 161 160,
 gt 162 161 (.mov false) [.t 5],
 gt 163 161 (.fad 0) [.t 8],
 gt 164 161 (.load 1 false false) [.t 163],
 gt 165 161 (.bin .leq) [.t 162,.t 164],
 ii 166 .pick [.t 161,.t 165,.c (.p (.bool false))],
 mv 167 166,
 gt 168 167 (.fad 8) [.t 19],
 gt 169 167 (.load 1 false false) [.t 168],
 gt 170 167 (.mov false) [.t 18],
 gt 171 167 (.bin .add) [.t 170,cI 1],
 gt 172 167 (.bin .eql) [.t 169,.t 171],
 ii 173 .pick [.t 167,.t 172,.c (.p (.bool false))],
 mt 12 173]
 .ret)
 (.sr [b1 175 .eql 154 (.int .i64 5),
 mt 174 175]
 (.cond (.t 174)
 (.sr [fa 176 3 19,
 ld 177 176,
 fa 178 0 8,
 ld 179 178,
 b2 180 .eql 177 179,
 mv 181 180,
 gt 182 181 (.mov false) [.t 5],
 gt 183 181 (.fad 0) [.t 8],
 gt 184 181 (.load 1 false false) [.t 183],
 gt 185 181 (.bin .gtr) [.t 182,.t 184],
 ii 186 .pick [.t 181,.t 185,.c (.p (.bool false))],
 mv 187 186,
 gt 188 187 (.fad 5) [.t 19],
 gt 189 187 (.load 1 false false) [.t 188],
 gt 190 187 (.bin .eql) [.t 189,cI 0],
 ii 191 .pick [.t 187,.t 190,.c (.p (.bool false))],
 mt 12 191]
 .ret)
 (.seq
 (.sr [b1 193 .eql 154 (.int .i64 3),
 mt 192 193]
 (.cond (.t 192)
 .skip
 (.reg [b1 194 .eql 154 (.int .i64 4),
 mt 192 194])))
 (.cond (.t 192)
 (.seq
 (.seq
 (.gp (.reg [ii 196 (.load 5 true false) [.t 6],
 ii 197 (.load 4 true false) [.t 8],
 ii 198 (.load 2 true false) [.t 15],
 ii 199 (.load 9 true false) [.t 16],
 mv 200 18,
 ii 201 (.call 20) [.t 196,.t 197,.t 198,.t 199,.t 200],
 mv 195 201,
 ii 202 (.ext 0) [.t 195],
 ii 203 (.ext 1) [.t 195],
 ⟨some 23,none,.alloc 7 9 [Z0,Z0,Z0,Z0,Z0,Z0,Z0,Z0,Z0],[]⟩,
 ⟨none,none,.store 9,[.t 23,.t 202]⟩,
 mt 24 203]) (.lay 7 9))
 (.sr [mv 204 24,
 b1 205 .neq 204 (.int .i64 0),
 mv 206 205,
 gf 207 206 (.load 9 true false) [.t 23],
 gf 208 206 (.load 9 true false) [.t 16],
 gf 209 206 (.eqs 9 true) [.t 207,.t 208],
 ii 210 .pick [.t 206,.c (.p (.bool true)),.t 209]]
 (.cond (.t 210)
 (.sr [mc 12 (.bool false)]
 .ret)
 .skip)))
 (.gp (.reg [fa 211 0 16,
 ⟨none,none,.store 1,[.t 211,cI 2]⟩]) (.lay 3 9)))
 .skip))))))))))))))
 (.reg [mv 90 18,
 b1 91 .add 90 (.int .i64 1),
 mt 18 91]))))))
 (.sr [mc 12 (.bool false)]
 .ret)))))))))))))⟩
theorem k3:a0H Tryz.prog 3 F3=true:=by kernel_rfl
open Go.RowKit Ma
structure Jb where
 st:Int
 rel:Int
 want:Int
 don:Int
 pc:Int
 left:Int
 ov:Int
 sec:Int
 fin:Int
def eJ(j:Jb):PV:=.agg [.int .i64 j.st,.int .i64 j.rel,.int .i64 j.want,.int .i64 j.don,.int .i64 j.pc,.int .i64 j.left,.int .i64 j.ov,.int .i64 j.sec,.int .i64 j.fin]
def a6W(ps:List Pc)(j:Jb):Bool:=decide (j.pc≥0)&&decide (j.pc<(ps.length:Int))
theorem b8w(k:Int)(nl:Bool)(ps:List Pc)(j:Jb):a0A Tryz.prog 53 [ePl k nl ps,eJ j] (.p (.bool (a6W ps j))):=by
 have e:a6W ps j=(decide (j.pc≥0)&&decide (j.pc<((ps.map eP).length:Int))):=by simp[a6W]
 rw[e];refine Fn.run k53 rfl ?_;generalize Tryz.prog=P at *
 (repeat'((conv=>whnf);first|exact trivial|(with_reducible first|refine zX ?_|refine zP ?_|refine zL ?_)|refine⟨rfl,?_⟩|refine⟨_,rfl,?_⟩|refine⟨fun _=>?_,fun _=>?_⟩|refine zn ?_|refine zb rfl ?_|refine zX ?_|refine zo rfl ?_|refine zs ?_|intro _));all_goals(try(conv=>whnf))
 all_goals (refine a0J (Bool.eq_iff_iff.2 ?_);simp only[beq_iff_eq,List.length_map,bAt,Bool.or_eq_true,Bool.and_eq_false_iff,Bool.or_eq_false_iff,decide_eq_true_eq,decide_eq_false_iff_not,Bool.not_eq_true',Bool.not_eq_false',Bool.false_eq_true,Bool.true_eq_false,Bool.not_true,Bool.not_false,ge_iff_le,gt_iff_lt] at *;first|done|omega|(simp only[false_iff];omega)|(simp only[true_iff];omega)|grind)
theorem b7K(j:Jb):a0A Tryz.prog 22 [eJ j] (.p (.bool (j.st ==1||(j.st ==2||j.st ==3)))):=by
 refine Fn.run k22 rfl ?_;generalize Tryz.prog=P at *
 (repeat'((conv=>whnf);first|exact trivial|(with_reducible first|refine zX ?_|refine zP ?_|refine zL ?_)|refine⟨rfl,?_⟩|refine⟨_,rfl,?_⟩|refine⟨fun _=>?_,fun _=>?_⟩|refine zn ?_|refine zb rfl ?_|refine zX ?_|refine zo rfl ?_|refine zs ?_|intro _));all_goals(try(conv=>whnf))
 all_goals (refine a0J (Bool.eq_iff_iff.2 ?_);simp only[beq_iff_eq,List.length_map,bAt,Bool.or_eq_true,Bool.and_eq_false_iff,Bool.or_eq_false_iff,decide_eq_true_eq,decide_eq_false_iff_not,Bool.not_eq_true',Bool.not_eq_false',Bool.false_eq_true,Bool.true_eq_false,Bool.not_true,Bool.not_false,ge_iff_le,gt_iff_lt] at *;first|done|omega|(simp only[false_iff];omega)|(simp only[true_iff];omega)|grind)
theorem b6M(j:Jb):a0A Tryz.prog 23 [eJ j] (.p (.bool (decide (j.st≥1)&&decide (j.st<=3)))):=by
 refine Fn.run k23 rfl ?_;generalize Tryz.prog=P at *
 (repeat'((conv=>whnf);first|exact trivial|(with_reducible first|refine zX ?_|refine zP ?_|refine zL ?_)|refine⟨rfl,?_⟩|refine⟨_,rfl,?_⟩|refine⟨fun _=>?_,fun _=>?_⟩|refine zn ?_|refine zb rfl ?_|refine zX ?_|refine zo rfl ?_|refine zs ?_|intro _));all_goals(try(conv=>whnf))
 all_goals (refine a0J (Bool.eq_iff_iff.2 ?_);simp only[beq_iff_eq,List.length_map,bAt,Bool.or_eq_true,Bool.and_eq_false_iff,Bool.or_eq_false_iff,decide_eq_true_eq,decide_eq_false_iff_not,Bool.not_eq_true',Bool.not_eq_false',Bool.false_eq_true,Bool.true_eq_false,Bool.not_true,Bool.not_false,ge_iff_le,gt_iff_lt] at *;first|done|omega|(simp only[false_iff];omega)|(simp only[true_iff];omega)|grind)
theorem c0j(j:Jb):(j.st ==1||(j.st ==2||j.st ==3))=(decide (j.st≥1)&&decide (j.st<=3)):=by
 rw[Bool.eq_iff_iff];simp only[Bool.or_eq_true,beq_iff_eq,bAt,decide_eq_true_eq];omega
open Go.RowKit Go.ChangeShapes Go.WideShapes Go.ChangeAt Ma
theorem u70:Tryz.prog.underlying 39=some (.struct #[{ name := "State", type:=3,offset:=0,embedded:=false,tag := "", pkgPath := "", byteOffset:=0 },{ name := "Release", type:=2,offset:=1,embedded:=false,tag := "", pkgPath := "", byteOffset:=8 },{ name := "Want", type:=2,offset:=2,embedded:=false,tag := "", pkgPath := "", byteOffset:=16 },{ name := "Done", type:=2,offset:=3,embedded:=false,tag := "", pkgPath := "", byteOffset:=24 },{ name := "Piece", type:=3,offset:=4,embedded:=false,tag := "", pkgPath := "", byteOffset:=32 },{ name := "Left", type:=2,offset:=5,embedded:=false,tag := "", pkgPath := "", byteOffset:=40 },{ name := "Over", type:=2,offset:=6,embedded:=false,tag := "", pkgPath := "", byteOffset:=48 },{ name := "Sec", type:=3,offset:=7,embedded:=false,tag := "", pkgPath := "", byteOffset:=56 },{ name := "End", type:=2,offset:=8,embedded:=false,tag := "", pkgPath := "", byteOffset:=64 }]):=by kernel_rfl
theorem b9j:Tryz.prog.wantsStandIn 39=false:=by kernel_rfl
theorem c6Q:okT Tryz.prog 12 39=true:=by kernel_rfl
theorem s70:isS Tryz.prog 39=true:=by kernel_rfl
theorem c2:Tryz.prog.cellsOf 2=1:=by kernel_rfl
theorem c8u{n:Nat}{cs:List PV}(h:RdT Tryz.prog n 39 cs):∃j:Jb,a2J true cs=eJ j:=by
 obtain⟨m,h⟩:=a3M u70 h;obtain⟨a1,r1,rfl,h1,a2,r2,rfl,h2,a3,r3,rfl,h3,a4,r4,rfl,h4,a5,r5,rfl,h5,a6,r6,rfl,h6,a7,r7,rfl,h7,a8,r8,rfl,h8,a9,r9,rfl,h9,rfl⟩:=h;obtain⟨x1,rfl⟩:=a0i u3 h1;obtain⟨x2,rfl⟩:=a0i u2 h2;obtain⟨x3,rfl⟩:=a0i u2 h3;obtain⟨x4,rfl⟩:=a0i u2 h4;obtain⟨x5,rfl⟩:=a0i u3 h5;obtain⟨x6,rfl⟩:=a0i u2 h6;obtain⟨x7,rfl⟩:=a0i u2 h7;obtain⟨x8,rfl⟩:=a0i u3 h8;obtain⟨x9,rfl⟩:=a0i u2 h9;exact⟨⟨x1,x2,x3,x4,x5,x6,x7,x8,x9⟩,rfl⟩
end Go.Proofs.YtnjphclbpgajpaaGreatDoor.Vc
namespace Go.Proofs.YtnjphclbpgajpaaGreatDoor.Ma
variable {cores lag move C D T:Int}
theorem a7W{L:List Pc}{x:Pc}:a7o lag move (L++[x])↔a7o lag move L/\∀p,L.getLast?=some p->p.off+p.len+lag<=x.off/\move<x.c:=by
 induction L with
 |nil=>simp[a7o]
 |cons a L ih=>
  cases L with
  |nil=>simp[a7o]
  |cons b L=>
   have e:(a ::b ::L)++[x]=a ::b ::(L++[x]):=rfl;rw[e];have e2:(b ::L)++[x]=b ::(L++[x]):=rfl;rw[e2] at ih;simp only[a7o,ih,List.getLast?_cons_cons]
   constructor
   ·rintro⟨h1,h2,h3⟩;exact⟨⟨h1,h2⟩,h3⟩
   ·rintro⟨⟨h1,h2⟩,h3⟩;exact⟨h1,h2,h3⟩
structure Pre (cores lag move:Int) (L:List Pc):Prop where
 pcs:∀p,p∈L->p.ok cores=true
 apart:L.Pairwise fun a b=>a.core≠b.core
 first:a2e L=0
 next:a7o lag move L
theorem Pre.nil:Pre cores lag move []:=⟨by simp,List.Pairwise.nil,rfl,trivial⟩
theorem b1w{L:List Pc}{x:Pc}:Pre cores lag move (L++[x])↔Pre cores lag move L/\x.ok cores=true/\(∀p,p∈L->p.core≠x.core)/\(L=[]->x.off=0)/\∀p,L.getLast?=some p->p.off+p.len+lag<=x.off/\move<x.c:=by
 have hf:a2e (L++[x])=0↔a2e L=0/\(L=[]->x.off=0):=by
  cases L with
  |nil=>simp[a2e]
  |cons a L=>simp[a2e]
 constructor
 ·rintro⟨h1,h2,h3,h4⟩
  rw[List.pairwise_append] at h2;rw[hf] at h3;rw[a7W] at h4;exact⟨⟨fun p hp=>h1 p (by simp[hp]),h2.1,h3.1,h4.1⟩,h1 x (by simp),fun p hp=>h2.2.2 p hp x (by simp),h3.2,h4.2⟩
 ·rintro⟨⟨h1,h2,h3,h4⟩,h5,h6,h7,h8⟩
  refine⟨fun p hp=>?_,?_,hf.2 ⟨h3,h7⟩,a7W.2 ⟨h4,h8⟩⟩
  ·rcases List.mem_append.1 hp with hp|hp
   ·exact h1 p hp
   ·simp only[List.mem_singleton] at hp;subst hp;exact h5
  ·rw[List.pairwise_append]
   exact⟨h2,by simp,fun a ha b hb=>by simp only[List.mem_singleton] at hb;subst hb;exact h6 a ha⟩
theorem Pre.take{L:List Pc}(h:Pre cores lag move L):∀n:Nat,Pre cores lag move (L.take n):=by
 suffices ∀(k n:Nat),L.length=n+k->Pre cores lag move (L.take n) by
  intro n
  by_cases hn:n<=L.length
  ·exact this (L.length-n) n (by omega)
  ·rw[List.take_of_length_le (by omega)];exact h
 intro k
 induction k with
 |zero=>intro n hn;rw[List.take_of_length_le (by omega)];exact h
 |succ k ih=>
  intro n hn;have h1:=ih (n+1) (by omega)
  have hlt:n<L.length:=by omega
  rw[List.take_succ_eq_append_getElem hlt,b1w] at h1;exact h1.1
theorem Pre.add{ps:List Pc}{i:Nat}(hi:i<ps.length)(h:Pre cores lag move (ps.take i))(h1:ps[i].ok cores=true)(h2:∀p,p∈ps.take i->p.core≠ps[i].core)(h3:i=0->ps[i].off=0)
  (h4:∀j (hj:j<ps.length),i=j+1->ps[j].off+ps[j].len+lag<=ps[i].off/\move<ps[i].c):Pre cores lag move (ps.take (i+1)):=by
 rw[List.take_succ_eq_append_getElem hi,b1w];refine⟨h,h1,h2,fun e=>h3 ?_,fun p hp=>?_⟩
 ·have:=congrArg List.length e
  rw[List.length_take,List.length_nil] at this;omega
 ·cases i with
  |zero=>simp at hp
  |succ j=>
   have hj:j<ps.length:=by omega
   rw[List.take_succ_eq_append_getElem hj,List.getLast?_append] at hp;have:p=ps[j]:=by simpa using hp.symm
   subst this;exact h4 j hj rfl
theorem b2T{ps:List Pc}{i:Nat}(hi:i<ps.length):a8K (ps.take (i+1))=a8K (ps.take i)+ps[i].c:=by
 rw[List.take_succ_eq_append_getElem hi,b1T];simp[a8K]
open Classical in
variable {cores lag move C D T:Int}
variable {cores lag move C D T:Int}
def ovV(m:Int)(p:Nat):Int:=if p=0 then 0 else m
def cV(W:List Pc)(p:Nat):Int:=(W[p]?.map (·.c)).getD 0
def b4r(m:Int)(W:List Pc):Nat->Int
 |0=>0
 |p+1=>b4r m W p+(cV W p-ovV m p)
theorem a4N{W:List Pc}{p:Nat}(h:p<W.length):cV W p=W[p].c:=by simp[cV,h]
theorem b7P{m:Int}{W:List Pc}:∀{p:Nat},p+1<=W.length->b4r m W (p+1)=a8K (W.take (p+1))-(p:Int)*m:=by
 intro p
 induction p with
 |zero=>
  intro h;rw[b2T (by omega)]
  simp[b4r,ovV,a8K,a4N (show 0<W.length by omega)]
 |succ p ih=>
  intro h;rw[b4r,ih (by omega),b2T (i:=p+1) (by omega),a4N (by omega),ovV,if_neg (by omega)]
  have:((p+1:Nat):Int)*m=(p:Int)*m+m:=by rw[Int.natCast_succ,Int.add_mul,Int.one_mul]
  omega
theorem PlanOk.base{nsec:Nat}{kind:Int}{W:List Pc}(h:PlanOk cores lag move C D nsec kind W):b4r move W W.length=C:=by
 have hne:W.length≠0:=fun e=>h.one (List.length_eq_zero_iff.1 e)
 obtain⟨n,hn⟩:∃n,W.length=n+1:=⟨W.length-1,by omega⟩
 have h1:=b7P (m:=move) (W:=W) (p:=n) (by omega)
 rw[<-hn,List.take_length,h.sum,hn] at h1;rw[hn,h1];have:(((n+1:Nat):Int)-1)=(n:Int):=by omega
 rw[this];omega
end Go.Proofs.YtnjphclbpgajpaaGreatDoor.Ma
