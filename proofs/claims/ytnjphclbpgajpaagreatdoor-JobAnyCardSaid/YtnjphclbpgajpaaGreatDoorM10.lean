/- Part of a proof over a Go program: Ck, Ckm, Ckw, Ckx, Ce, Lb, Cg. No condition. -/
import Derived.Test.YtnjphclbpgajpaaGreatDoorM09
set_option linter.unnecessarySimpa false
set_option linter.unusedSectionVars false
set_option linter.unusedSimpArgs false
set_option linter.unusedVariables false
set_option maxHeartbeats 4000000
set_option maxRecDepth 100000
namespace Go.Proofs.YtnjphclbpgajpaaGreatDoor.Vc
open Go.RowKit Ma
def atV(secs:List Sec)(i:Int):Int:=(secs[i.toNat]?.map (·.at_)).getD 0
def a0q(j:Jb):Jb:=if j.ov<=0 then ⟨j.st,j.rel,j.want,IntKind.wrap IntKind.i64 (j.don+1),j.pc,IntKind.wrap IntKind.i64 (j.left-1),j.ov,j.sec,j.fin⟩ else ⟨j.st,j.rel,j.want,j.don,j.pc,IntKind.wrap IntKind.i64 (j.left-1),IntKind.wrap IntKind.i64 (j.ov-1),j.sec,j.fin⟩
def a1D(mv now:Int)(secs:List Sec)(ps:List Pc)(j:Jb):Jb×Int :=
 if j.st=2/\0<=j.pc/\j.pc<(ps.length:Int) then
  if j.ov<=0/\IntKind.wrap IntKind.i64 (j.don+1)=j.want then (⟨4,(a0q j).rel,(a0q j).want,(a0q j).don,(a0q j).pc,(a0q j).left,(a0q j).ov,(a0q j).sec,IntKind.wrap IntKind.i64 (now+1)⟩,2)
  else if j.ov<=0/\0<=j.sec/\j.sec<(secs.length:Int)/\atV secs j.sec=IntKind.wrap IntKind.i64 (j.don+1) then (⟨3,(a0q j).rel,(a0q j).want,(a0q j).don,(a0q j).pc,(a0q j).left,(a0q j).ov,IntKind.wrap IntKind.i64 (j.sec+1),(a0q j).fin⟩,3)
  else if ¬IntKind.wrap IntKind.i64 (j.left-1)=0 then (a0q j,1)
  else if j.pc+1=(ps.length:Int) then (⟨5,(a0q j).rel,(a0q j).want,(a0q j).don,(a0q j).pc,(a0q j).left,(a0q j).ov,(a0q j).sec,IntKind.wrap IntKind.i64 (now+1)⟩,5)
  else (⟨1,(a0q j).rel,(a0q j).want,(a0q j).don,IntKind.wrap IntKind.i64 (j.pc+1),cV ps (IntKind.wrap IntKind.i64 (j.pc+1)).toNat,mv,(a0q j).sec,(a0q j).fin⟩,4)
 else (j,0)
def jR(r:Jb×Int):DV:=.tup [.p (eJ r.1),.p (.int .i64 r.2)]
theorem b2w{ps:List Pc}(hps:ps.length<=1000){j:Jb}(h:0<=j.pc/\j.pc<(ps.length:Int)):IntKind.wrap IntKind.i64 (j.pc+1)=j.pc+1:=a0T (by omega) (by omega)
section
variable {mv now:Int} {secs:List Sec} {ps:List Pc} {j:Jb}
theorem tw2(hr:j.st=2/\0<=j.pc/\j.pc<(ps.length:Int))(h1:j.ov<=0)(h2:IntKind.wrap IntKind.i64 (j.don+1)=j.want) :
  a1D mv now secs ps j=(⟨4,j.rel,j.want,IntKind.wrap IntKind.i64 (j.don+1),j.pc,IntKind.wrap IntKind.i64 (j.left-1),j.ov,j.sec,IntKind.wrap IntKind.i64 (now+1)⟩,2):=by
 unfold a1D a0q;rw[if_pos hr,if_pos ⟨h1,h2⟩,if_pos h1]
theorem tw3(hr:j.st=2/\0<=j.pc/\j.pc<(ps.length:Int))(h1:j.ov<=0)(h2:¬IntKind.wrap IntKind.i64 (j.don+1)=j.want)(h3:0<=j.sec/\j.sec<(secs.length:Int)/\atV secs j.sec=IntKind.wrap IntKind.i64 (j.don+1)) :
  a1D mv now secs ps j=(⟨3,j.rel,j.want,IntKind.wrap IntKind.i64 (j.don+1),j.pc,IntKind.wrap IntKind.i64 (j.left-1),j.ov,IntKind.wrap IntKind.i64 (j.sec+1),j.fin⟩,3):=by
 unfold a1D a0q;rw[if_pos hr,if_neg (fun e=>h2 e.2),if_pos ⟨h1,h3⟩,if_pos h1]
theorem tw1(hr:j.st=2/\0<=j.pc/\j.pc<(ps.length:Int))(h1:j.ov<=0)(h2:¬IntKind.wrap IntKind.i64 (j.don+1)=j.want)(h3:¬(0<=j.sec/\j.sec<(secs.length:Int)/\atV secs j.sec=IntKind.wrap IntKind.i64 (j.don+1)))(h4:¬IntKind.wrap IntKind.i64 (j.left-1)=0) :
  a1D mv now secs ps j=(⟨j.st,j.rel,j.want,IntKind.wrap IntKind.i64 (j.don+1),j.pc,IntKind.wrap IntKind.i64 (j.left-1),j.ov,j.sec,j.fin⟩,1):=by
 unfold a1D a0q;rw[if_pos hr,if_neg (fun e=>h2 e.2),if_neg (fun e=>h3 e.2),if_pos h4,if_pos h1]
theorem tm1(hr:j.st=2/\0<=j.pc/\j.pc<(ps.length:Int))(h1:¬j.ov<=0)(h4:¬IntKind.wrap IntKind.i64 (j.left-1)=0) :
  a1D mv now secs ps j=(⟨j.st,j.rel,j.want,j.don,j.pc,IntKind.wrap IntKind.i64 (j.left-1),IntKind.wrap IntKind.i64 (j.ov-1),j.sec,j.fin⟩,1):=by
 unfold a1D a0q;rw[if_pos hr,if_neg (fun e=>h1 e.1),if_neg (fun e=>h1 e.1),if_pos h4,if_neg h1]
theorem tw5(hr:j.st=2/\0<=j.pc/\j.pc<(ps.length:Int))(h1:j.ov<=0)(h2:¬IntKind.wrap IntKind.i64 (j.don+1)=j.want)(h3:¬(0<=j.sec/\j.sec<(secs.length:Int)/\atV secs j.sec=IntKind.wrap IntKind.i64 (j.don+1)))(h4:IntKind.wrap IntKind.i64 (j.left-1)=0)(h5:j.pc+1=(ps.length:Int)) :
  a1D mv now secs ps j=(⟨5,j.rel,j.want,IntKind.wrap IntKind.i64 (j.don+1),j.pc,IntKind.wrap IntKind.i64 (j.left-1),j.ov,j.sec,IntKind.wrap IntKind.i64 (now+1)⟩,5):=by
 unfold a1D a0q;rw[if_pos hr,if_neg (fun e=>h2 e.2),if_neg (fun e=>h3 e.2),if_neg (fun e=>e h4),if_pos h5,if_pos h1]
theorem tm5(hr:j.st=2/\0<=j.pc/\j.pc<(ps.length:Int))(h1:¬j.ov<=0)(h4:IntKind.wrap IntKind.i64 (j.left-1)=0)(h5:j.pc+1=(ps.length:Int)) :
  a1D mv now secs ps j=(⟨5,j.rel,j.want,j.don,j.pc,IntKind.wrap IntKind.i64 (j.left-1),IntKind.wrap IntKind.i64 (j.ov-1),j.sec,IntKind.wrap IntKind.i64 (now+1)⟩,5):=by
 unfold a1D a0q;rw[if_pos hr,if_neg (fun e=>h1 e.1),if_neg (fun e=>h1 e.1),if_neg (fun e=>e h4),if_pos h5,if_neg h1]
theorem tw4(hr:j.st=2/\0<=j.pc/\j.pc<(ps.length:Int))(h1:j.ov<=0)(h2:¬IntKind.wrap IntKind.i64 (j.don+1)=j.want)(h3:¬(0<=j.sec/\j.sec<(secs.length:Int)/\atV secs j.sec=IntKind.wrap IntKind.i64 (j.don+1)))(h4:IntKind.wrap IntKind.i64 (j.left-1)=0)(h5:¬j.pc+1=(ps.length:Int)){y:Int}(hy:cV ps (IntKind.wrap IntKind.i64 (j.pc+1)).toNat=y) :
  a1D mv now secs ps j=(⟨1,j.rel,j.want,IntKind.wrap IntKind.i64 (j.don+1),IntKind.wrap IntKind.i64 (j.pc+1),y,mv,j.sec,j.fin⟩,4):=by
 subst hy;unfold a1D a0q;rw[if_pos hr,if_neg (fun e=>h2 e.2),if_neg (fun e=>h3 e.2),if_neg (fun e=>e h4),if_neg h5,if_pos h1]
theorem tm4(hr:j.st=2/\0<=j.pc/\j.pc<(ps.length:Int))(h1:¬j.ov<=0)(h4:IntKind.wrap IntKind.i64 (j.left-1)=0)(h5:¬j.pc+1=(ps.length:Int)){y:Int}(hy:cV ps (IntKind.wrap IntKind.i64 (j.pc+1)).toNat=y) :
  a1D mv now secs ps j=(⟨1,j.rel,j.want,j.don,IntKind.wrap IntKind.i64 (j.pc+1),y,mv,j.sec,j.fin⟩,4):=by
 subst hy;unfold a1D a0q;rw[if_pos hr,if_neg (fun e=>h1 e.1),if_neg (fun e=>h1 e.1),if_neg (fun e=>e h4),if_neg h5,if_neg h1]
end
theorem c0R(c:Cf)(t:Tk)(k:Int)(nl:Bool)(ps:List Pc)(hps:ps.length<=1000)(j:Jb)(now:Int) :
  a0A Tryz.prog 20 [eCf c,eT t,ePl k nl ps,eJ j,.int .i64 now] (jR (a1D c.move now t.secs ps j)):=by
 have hth:=b8w k nl ps j;have hm:=a0M;have hpl:((ps.map eP).length:Int)=ps.length:=by simp
 have hsl:((t.secs.map eS).length:Int)=t.secs.length:=by simp
 have hwl:IntKind.wrap .i64 (((ps.map eP).length:Int)-1)=((ps.map eP).length:Int)-1:=a0T (by omega) (by omega)
 by_cases hst:j.st=2
 ·have b0:(j.st !=2)=false:=by simp[hst]
  by_cases hr:0<=j.pc/\j.pc<(ps.length:Int)
  ·have hR:j.st=2/\0<=j.pc/\j.pc<(ps.length:Int):=⟨hst,hr⟩
   have hwp:=b2w hps hr;have ht:a6W ps j=true:=by simp[a6W,hr]
   rw[ht] at hth
   by_cases hO:j.ov<=0
   ·have bO:decide (j.ov<=0)=true:=decide_eq_true hO
    by_cases hD:IntKind.wrap IntKind.i64 (j.don+1)=j.want
    ·have bD:(IntKind.wrap IntKind.i64 (j.don+1) ==j.want)=true:=by simp[hD]
     rw[tw2 (mv:=c.move) (now:=now) hR hO hD];refine Fn.run k20 rfl ?_;generalize Tryz.prog=P at *
     (repeat'((conv=>whnf);first|exact trivial|(with_reducible first|refine zX ?_|refine zP ?_|refine zL ?_)|refine⟨rfl,?_⟩|refine⟨_,rfl,?_⟩|refine⟨fun _=>?_,fun _=>?_⟩|refine zn ?_|refine zb rfl ?_|refine zX ?_|refine zo rfl ?_|refine zs ?_|intro _));all_goals(try(conv=>whnf))
     all_goals rfl
    ·have bD:(IntKind.wrap IntKind.i64 (j.don+1) ==j.want)=false:=by simp[hD]
     by_cases hS:0<=j.sec
     ·have bS:decide (j.sec≥0)=true:=decide_eq_true hS
      by_cases hS2:j.sec<(t.secs.length:Int)
      ·have bS2:decide (j.sec<((t.secs.map eS).length:Int))=true:=decide_eq_true (by omega)
       have hsn:j.sec.toNat<t.secs.length:=by omega
       have hs1:(t.secs.map eS)[j.sec.toNat]?=some (.agg [.int .i64 t.secs[j.sec.toNat].res,.int .i64 t.secs[j.sec.toNat].at_,.int .i64 t.secs[j.sec.toNat].len]):=by simp[hsn,eS]
       have hat:atV t.secs j.sec=t.secs[j.sec.toNat].at_:=by simp[atV,hsn]
       generalize t.secs[j.sec.toNat]=x at *
       by_cases hE:x.at_=IntKind.wrap IntKind.i64 (j.don+1)
       ·have bE:(x.at_ ==IntKind.wrap IntKind.i64 (j.don+1))=true:=by simp[hE]
        rw[tw3 (mv:=c.move) (now:=now) hR hO hD ⟨hS,hS2,by rw[hat];exact hE⟩]
        refine Fn.run k20 rfl ?_;generalize Tryz.prog=P at *
        (repeat'((conv=>whnf);first|exact trivial|(with_reducible first|refine zX ?_|refine zP ?_|refine zL ?_)|refine⟨rfl,?_⟩|refine⟨_,rfl,?_⟩|refine⟨fun _=>?_,fun _=>?_⟩|refine zn ?_|refine zb rfl ?_|refine zX ?_|refine zo rfl ?_|refine zs ?_|intro _));all_goals(try(conv=>whnf))
        all_goals rfl
       ·have bE:(x.at_ ==IntKind.wrap IntKind.i64 (j.don+1))=false:=by simp[hE]
        have hA:¬(0<=j.sec/\j.sec<(t.secs.length:Int)/\atV t.secs j.sec=IntKind.wrap IntKind.i64 (j.don+1)):=fun h=>hE (by rw[<-hat];exact h.2.2)
        by_cases hL:IntKind.wrap IntKind.i64 (j.left-1)=0
        ·have bL:(IntKind.wrap IntKind.i64 (j.left-1) !=0)=false:=by simp[hL]
         by_cases hP:j.pc+1=(ps.length:Int)
         ·have bP:(j.pc ==IntKind.wrap IntKind.i64 (((ps.map eP).length:Int)-1))=true:=by rw[hwl];simp;omega
          have hres:=tw5 (mv:=c.move) (now:=now) hR hO hD hA hL hP;rw[hres];refine Fn.run k20 rfl ?_;generalize Tryz.prog=P at *
          (repeat'((conv=>whnf);first|exact trivial|(with_reducible first|refine zX ?_|refine zP ?_|refine zL ?_)|refine⟨rfl,?_⟩|refine⟨_,rfl,?_⟩|refine⟨fun _=>?_,fun _=>?_⟩|refine zn ?_|refine zb rfl ?_|refine zX ?_|refine zo rfl ?_|refine zs ?_|intro _));all_goals(try(conv=>whnf))
          all_goals rfl
         ·have bP:(j.pc ==IntKind.wrap IntKind.i64 (((ps.map eP).length:Int)-1))=false:=by rw[hwl];simp;omega
          have hpn:(IntKind.wrap IntKind.i64 (j.pc+1)).toNat<ps.length:=by rw[hwp];omega
          have hp0:0<=IntKind.wrap IntKind.i64 (j.pc+1):=by rw[hwp];omega
          have hp1:(ps.map eP)[(IntKind.wrap IntKind.i64 (j.pc+1)).toNat]?=some (.agg [.int .i64 ps[(IntKind.wrap IntKind.i64 (j.pc+1)).toNat].core,.int .i64 ps[(IntKind.wrap IntKind.i64 (j.pc+1)).toNat].off,.int .i64 ps[(IntKind.wrap IntKind.i64 (j.pc+1)).toNat].len,.int .i64 ps[(IntKind.wrap IntKind.i64 (j.pc+1)).toNat].c]):=by simp[hpn,eP]
          have hres:=tw4 (mv:=c.move) (now:=now) hR hO hD hA hL hP (a4N hpn);rw[hres];generalize ps[(IntKind.wrap IntKind.i64 (j.pc+1)).toNat]=y at *;refine Fn.run k20 rfl ?_;generalize Tryz.prog=P at *
          (repeat'((conv=>whnf);first|exact trivial|(with_reducible first|refine zX ?_|refine zP ?_|refine zL ?_)|refine⟨rfl,?_⟩|refine⟨_,rfl,?_⟩|refine⟨fun _=>?_,fun _=>?_⟩|refine zn ?_|refine zb rfl ?_|refine zX ?_|refine zo rfl ?_|refine zs ?_|intro _));all_goals(try(conv=>whnf))
          all_goals rfl
        ·have bL:(IntKind.wrap IntKind.i64 (j.left-1) !=0)=true:=by simp[hL]
         have hres:=tw1 (mv:=c.move) (now:=now) hR hO hD hA hL;rw[hres];refine Fn.run k20 rfl ?_;generalize Tryz.prog=P at *
         (repeat'((conv=>whnf);first|exact trivial|(with_reducible first|refine zX ?_|refine zP ?_|refine zL ?_)|refine⟨rfl,?_⟩|refine⟨_,rfl,?_⟩|refine⟨fun _=>?_,fun _=>?_⟩|refine zn ?_|refine zb rfl ?_|refine zX ?_|refine zo rfl ?_|refine zs ?_|intro _));all_goals(try(conv=>whnf))
         all_goals rfl
      ·have bS2:decide (j.sec<((t.secs.map eS).length:Int))=false:=decide_eq_false (by omega)
       have hA:¬(0<=j.sec/\j.sec<(t.secs.length:Int)/\atV t.secs j.sec=IntKind.wrap IntKind.i64 (j.don+1)):=fun h=>hS2 h.2.1
       by_cases hL:IntKind.wrap IntKind.i64 (j.left-1)=0
       ·have bL:(IntKind.wrap IntKind.i64 (j.left-1) !=0)=false:=by simp[hL]
        by_cases hP:j.pc+1=(ps.length:Int)
        ·have bP:(j.pc ==IntKind.wrap IntKind.i64 (((ps.map eP).length:Int)-1))=true:=by rw[hwl];simp;omega
         have hres:=tw5 (mv:=c.move) (now:=now) hR hO hD hA hL hP;rw[hres];refine Fn.run k20 rfl ?_;generalize Tryz.prog=P at *
         (repeat'((conv=>whnf);first|exact trivial|(with_reducible first|refine zX ?_|refine zP ?_|refine zL ?_)|refine⟨rfl,?_⟩|refine⟨_,rfl,?_⟩|refine⟨fun _=>?_,fun _=>?_⟩|refine zn ?_|refine zb rfl ?_|refine zX ?_|refine zo rfl ?_|refine zs ?_|intro _));all_goals(try(conv=>whnf))
         all_goals rfl
        ·have bP:(j.pc ==IntKind.wrap IntKind.i64 (((ps.map eP).length:Int)-1))=false:=by rw[hwl];simp;omega
         have hpn:(IntKind.wrap IntKind.i64 (j.pc+1)).toNat<ps.length:=by rw[hwp];omega
         have hp0:0<=IntKind.wrap IntKind.i64 (j.pc+1):=by rw[hwp];omega
         have hp1:(ps.map eP)[(IntKind.wrap IntKind.i64 (j.pc+1)).toNat]?=some (.agg [.int .i64 ps[(IntKind.wrap IntKind.i64 (j.pc+1)).toNat].core,.int .i64 ps[(IntKind.wrap IntKind.i64 (j.pc+1)).toNat].off,.int .i64 ps[(IntKind.wrap IntKind.i64 (j.pc+1)).toNat].len,.int .i64 ps[(IntKind.wrap IntKind.i64 (j.pc+1)).toNat].c]):=by simp[hpn,eP]
         have hres:=tw4 (mv:=c.move) (now:=now) hR hO hD hA hL hP (a4N hpn);rw[hres];generalize ps[(IntKind.wrap IntKind.i64 (j.pc+1)).toNat]=y at *;refine Fn.run k20 rfl ?_;generalize Tryz.prog=P at *
         (repeat'((conv=>whnf);first|exact trivial|(with_reducible first|refine zX ?_|refine zP ?_|refine zL ?_)|refine⟨rfl,?_⟩|refine⟨_,rfl,?_⟩|refine⟨fun _=>?_,fun _=>?_⟩|refine zn ?_|refine zb rfl ?_|refine zX ?_|refine zo rfl ?_|refine zs ?_|intro _));all_goals(try(conv=>whnf))
         all_goals rfl
       ·have bL:(IntKind.wrap IntKind.i64 (j.left-1) !=0)=true:=by simp[hL]
        have hres:=tw1 (mv:=c.move) (now:=now) hR hO hD hA hL;rw[hres];refine Fn.run k20 rfl ?_;generalize Tryz.prog=P at *
        (repeat'((conv=>whnf);first|exact trivial|(with_reducible first|refine zX ?_|refine zP ?_|refine zL ?_)|refine⟨rfl,?_⟩|refine⟨_,rfl,?_⟩|refine⟨fun _=>?_,fun _=>?_⟩|refine zn ?_|refine zb rfl ?_|refine zX ?_|refine zo rfl ?_|refine zs ?_|intro _));all_goals(try(conv=>whnf))
        all_goals rfl
     ·have bS:decide (j.sec≥0)=false:=decide_eq_false hS
      have hA:¬(0<=j.sec/\j.sec<(t.secs.length:Int)/\atV t.secs j.sec=IntKind.wrap IntKind.i64 (j.don+1)):=fun h=>hS h.1
      by_cases hL:IntKind.wrap IntKind.i64 (j.left-1)=0
      ·have bL:(IntKind.wrap IntKind.i64 (j.left-1) !=0)=false:=by simp[hL]
       by_cases hP:j.pc+1=(ps.length:Int)
       ·have bP:(j.pc ==IntKind.wrap IntKind.i64 (((ps.map eP).length:Int)-1))=true:=by rw[hwl];simp;omega
        have hres:=tw5 (mv:=c.move) (now:=now) hR hO hD hA hL hP;rw[hres];refine Fn.run k20 rfl ?_;generalize Tryz.prog=P at *
        (repeat'((conv=>whnf);first|exact trivial|(with_reducible first|refine zX ?_|refine zP ?_|refine zL ?_)|refine⟨rfl,?_⟩|refine⟨_,rfl,?_⟩|refine⟨fun _=>?_,fun _=>?_⟩|refine zn ?_|refine zb rfl ?_|refine zX ?_|refine zo rfl ?_|refine zs ?_|intro _));all_goals(try(conv=>whnf))
        all_goals rfl
       ·have bP:(j.pc ==IntKind.wrap IntKind.i64 (((ps.map eP).length:Int)-1))=false:=by rw[hwl];simp;omega
        have hpn:(IntKind.wrap IntKind.i64 (j.pc+1)).toNat<ps.length:=by rw[hwp];omega
        have hp0:0<=IntKind.wrap IntKind.i64 (j.pc+1):=by rw[hwp];omega
        have hp1:(ps.map eP)[(IntKind.wrap IntKind.i64 (j.pc+1)).toNat]?=some (.agg [.int .i64 ps[(IntKind.wrap IntKind.i64 (j.pc+1)).toNat].core,.int .i64 ps[(IntKind.wrap IntKind.i64 (j.pc+1)).toNat].off,.int .i64 ps[(IntKind.wrap IntKind.i64 (j.pc+1)).toNat].len,.int .i64 ps[(IntKind.wrap IntKind.i64 (j.pc+1)).toNat].c]):=by simp[hpn,eP]
        have hres:=tw4 (mv:=c.move) (now:=now) hR hO hD hA hL hP (a4N hpn);rw[hres];generalize ps[(IntKind.wrap IntKind.i64 (j.pc+1)).toNat]=y at *;refine Fn.run k20 rfl ?_;generalize Tryz.prog=P at *
        (repeat'((conv=>whnf);first|exact trivial|(with_reducible first|refine zX ?_|refine zP ?_|refine zL ?_)|refine⟨rfl,?_⟩|refine⟨_,rfl,?_⟩|refine⟨fun _=>?_,fun _=>?_⟩|refine zn ?_|refine zb rfl ?_|refine zX ?_|refine zo rfl ?_|refine zs ?_|intro _));all_goals(try(conv=>whnf))
        all_goals rfl
      ·have bL:(IntKind.wrap IntKind.i64 (j.left-1) !=0)=true:=by simp[hL]
       have hres:=tw1 (mv:=c.move) (now:=now) hR hO hD hA hL;rw[hres];refine Fn.run k20 rfl ?_;generalize Tryz.prog=P at *
       (repeat'((conv=>whnf);first|exact trivial|(with_reducible first|refine zX ?_|refine zP ?_|refine zL ?_)|refine⟨rfl,?_⟩|refine⟨_,rfl,?_⟩|refine⟨fun _=>?_,fun _=>?_⟩|refine zn ?_|refine zb rfl ?_|refine zX ?_|refine zo rfl ?_|refine zs ?_|intro _));all_goals(try(conv=>whnf))
       all_goals rfl
   ·have bO:decide (j.ov<=0)=false:=decide_eq_false hO
    by_cases hL:IntKind.wrap IntKind.i64 (j.left-1)=0
    ·have bL:(IntKind.wrap IntKind.i64 (j.left-1) !=0)=false:=by simp[hL]
     by_cases hP:j.pc+1=(ps.length:Int)
     ·have bP:(j.pc ==IntKind.wrap IntKind.i64 (((ps.map eP).length:Int)-1))=true:=by rw[hwl];simp;omega
      have hres:=tm5 (mv:=c.move) (now:=now) (secs:=t.secs) hR hO hL hP;rw[hres];refine Fn.run k20 rfl ?_;generalize Tryz.prog=P at *
      (repeat'((conv=>whnf);first|exact trivial|(with_reducible first|refine zX ?_|refine zP ?_|refine zL ?_)|refine⟨rfl,?_⟩|refine⟨_,rfl,?_⟩|refine⟨fun _=>?_,fun _=>?_⟩|refine zn ?_|refine zb rfl ?_|refine zX ?_|refine zo rfl ?_|refine zs ?_|intro _));all_goals(try(conv=>whnf))
      all_goals rfl
     ·have bP:(j.pc ==IntKind.wrap IntKind.i64 (((ps.map eP).length:Int)-1))=false:=by rw[hwl];simp;omega
      have hpn:(IntKind.wrap IntKind.i64 (j.pc+1)).toNat<ps.length:=by rw[hwp];omega
      have hp0:0<=IntKind.wrap IntKind.i64 (j.pc+1):=by rw[hwp];omega
      have hp1:(ps.map eP)[(IntKind.wrap IntKind.i64 (j.pc+1)).toNat]?=some (.agg [.int .i64 ps[(IntKind.wrap IntKind.i64 (j.pc+1)).toNat].core,.int .i64 ps[(IntKind.wrap IntKind.i64 (j.pc+1)).toNat].off,.int .i64 ps[(IntKind.wrap IntKind.i64 (j.pc+1)).toNat].len,.int .i64 ps[(IntKind.wrap IntKind.i64 (j.pc+1)).toNat].c]):=by simp[hpn,eP]
      have hres:=tm4 (mv:=c.move) (now:=now) (secs:=t.secs) hR hO hL hP (a4N hpn);rw[hres];generalize ps[(IntKind.wrap IntKind.i64 (j.pc+1)).toNat]=y at *;refine Fn.run k20 rfl ?_;generalize Tryz.prog=P at *
      (repeat'((conv=>whnf);first|exact trivial|(with_reducible first|refine zX ?_|refine zP ?_|refine zL ?_)|refine⟨rfl,?_⟩|refine⟨_,rfl,?_⟩|refine⟨fun _=>?_,fun _=>?_⟩|refine zn ?_|refine zb rfl ?_|refine zX ?_|refine zo rfl ?_|refine zs ?_|intro _));all_goals(try(conv=>whnf))
      all_goals rfl
    ·have bL:(IntKind.wrap IntKind.i64 (j.left-1) !=0)=true:=by simp[hL]
     have hres:=tm1 (mv:=c.move) (now:=now) (secs:=t.secs) hR hO hL;rw[hres];refine Fn.run k20 rfl ?_;generalize Tryz.prog=P at *
     (repeat'((conv=>whnf);first|exact trivial|(with_reducible first|refine zX ?_|refine zP ?_|refine zL ?_)|refine⟨rfl,?_⟩|refine⟨_,rfl,?_⟩|refine⟨fun _=>?_,fun _=>?_⟩|refine zn ?_|refine zb rfl ?_|refine zX ?_|refine zo rfl ?_|refine zs ?_|intro _));all_goals(try(conv=>whnf))
     all_goals rfl
  ·have e:a1D c.move now t.secs ps j=(j,0):=by unfold a1D;rw[if_neg (fun h=>hr h.2)]
   rw[e];have ht:a6W ps j=false:=by rw[Bool.eq_false_iff];simp only[a6W,ne_eq,bAt,decide_eq_true_eq];omega
   rw[ht] at hth;refine Fn.run k20 rfl ?_;generalize Tryz.prog=P at *
   (repeat'((conv=>whnf);first|exact trivial|(with_reducible first|refine zX ?_|refine zP ?_|refine zL ?_)|refine⟨rfl,?_⟩|refine⟨_,rfl,?_⟩|refine⟨fun _=>?_,fun _=>?_⟩|refine zn ?_|refine zb rfl ?_|refine zX ?_|refine zo rfl ?_|refine zs ?_|intro _));all_goals(try(conv=>whnf))
   all_goals rfl
 ·have e:a1D c.move now t.secs ps j=(j,0):=by unfold a1D;rw[if_neg (fun h=>hst h.1)]
  rw[e];have b0:(j.st !=2)=true:=by simp[hst]
  refine Fn.run k20 rfl ?_;generalize Tryz.prog=P at *
  (repeat'((conv=>whnf);first|exact trivial|(with_reducible first|refine zX ?_|refine zP ?_|refine zL ?_)|refine⟨rfl,?_⟩|refine⟨_,rfl,?_⟩|refine⟨fun _=>?_,fun _=>?_⟩|refine zn ?_|refine zb rfl ?_|refine zX ?_|refine zo rfl ?_|refine zs ?_|intro _));all_goals(try(conv=>whnf))
  all_goals rfl
open Go.RowKit Ma
theorem c0C(c:Cf)(t:Tk)(k:Int)(nl:Bool)(ps:List Pc)(hps:ps.length<=1000)(j:Jb)(now:Int)(hl:1<=j.left/\j.left<=1000000)(hs0:0<=j.sec)(hst:j.st=2)(hr:0<=j.pc/\j.pc<(ps.length:Int))(hO:¬j.ov<=0) :
  a0A Tryz.prog 21 [eCf c,eT t,ePl k nl ps,eJ j,.int .i64 now] (jR (a1D c.move now t.secs ps j)):=by
 have hm:=a0M;have hpl:((ps.map eP).length:Int)=ps.length:=by simp
 have hsl:((t.secs.map eS).length:Int)=t.secs.length:=by simp
 have hwf:IntKind.wrap IntKind.i64 (j.left-1)=j.left-1:=a0T (by omega) (by omega)
 have b0:(j.st !=2)=false:=by simp[hst]
 have hR:j.st=2/\0<=j.pc/\j.pc<(ps.length:Int):=⟨hst,hr⟩;have hwp:=b2w hps hr;have b1:decide (j.pc<0)=false:=decide_eq_false (by omega)
 have b2:decide (j.pc≥((ps.map eP).length:Int))=false:=decide_eq_false (by omega)
 have bO:decide (j.ov>0)=true:=decide_eq_true (by omega)
 have nO:(!decide (j.ov>0))=false:=by rw[bO];rfl
 by_cases hL:IntKind.wrap IntKind.i64 (j.left-1)=0
 ·have bL:decide (IntKind.wrap IntKind.i64 (j.left-1)>0)=false:=by simp;omega
  by_cases hP:j.pc+1=(ps.length:Int)
  ·have bP:(IntKind.wrap IntKind.i64 (j.pc+1) ==((ps.map eP).length:Int))=true:=by rw[hwp];simp;omega
   have hres:=tm5 (mv:=c.move) (now:=now) (secs:=t.secs) hR hO hL hP;rw[hres];refine Fn.run k21 rfl ?_;generalize Tryz.prog=P at *
   (repeat'((conv=>whnf);first|exact trivial|(with_reducible first|refine zX ?_|refine zP ?_|refine zL ?_)|refine⟨rfl,?_⟩|refine⟨_,rfl,?_⟩|refine⟨fun _=>?_,fun _=>?_⟩|refine zn ?_|refine zb rfl ?_|refine zX ?_|refine zo rfl ?_|refine zs ?_|intro _));all_goals(try(conv=>whnf))
   all_goals first|rfl|(exfalso;simp at *;done)
  ·have bP:(IntKind.wrap IntKind.i64 (j.pc+1) ==((ps.map eP).length:Int))=false:=by rw[hwp];simp;omega
   have hpn:(IntKind.wrap IntKind.i64 (j.pc+1)).toNat<ps.length:=by rw[hwp];omega
   have hp0:0<=IntKind.wrap IntKind.i64 (j.pc+1):=by rw[hwp];omega
   have hp1:(ps.map eP)[(IntKind.wrap IntKind.i64 (j.pc+1)).toNat]?=some (.agg [.int .i64 ps[(IntKind.wrap IntKind.i64 (j.pc+1)).toNat].core,.int .i64 ps[(IntKind.wrap IntKind.i64 (j.pc+1)).toNat].off,.int .i64 ps[(IntKind.wrap IntKind.i64 (j.pc+1)).toNat].len,.int .i64 ps[(IntKind.wrap IntKind.i64 (j.pc+1)).toNat].c]):=by simp[hpn,eP]
   have hres:=tm4 (mv:=c.move) (now:=now) (secs:=t.secs) hR hO hL hP (a4N hpn);rw[hres];generalize ps[(IntKind.wrap IntKind.i64 (j.pc+1)).toNat]=y at *;refine Fn.run k21 rfl ?_;generalize Tryz.prog=P at *
   (repeat'((conv=>whnf);first|exact trivial|(with_reducible first|refine zX ?_|refine zP ?_|refine zL ?_)|refine⟨rfl,?_⟩|refine⟨_,rfl,?_⟩|refine⟨fun _=>?_,fun _=>?_⟩|refine zn ?_|refine zb rfl ?_|refine zX ?_|refine zo rfl ?_|refine zs ?_|intro _));all_goals(try(conv=>whnf))
   all_goals first|rfl|(exfalso;simp at *;done)
 ·have bL:decide (IntKind.wrap IntKind.i64 (j.left-1)>0)=true:=by simp;omega
  have hres:=tm1 (mv:=c.move) (now:=now) (secs:=t.secs) hR hO hL;rw[hres];refine Fn.run k21 rfl ?_;generalize Tryz.prog=P at *
  (repeat'((conv=>whnf);first|exact trivial|(with_reducible first|refine zX ?_|refine zP ?_|refine zL ?_)|refine⟨rfl,?_⟩|refine⟨_,rfl,?_⟩|refine⟨fun _=>?_,fun _=>?_⟩|refine zn ?_|refine zb rfl ?_|refine zX ?_|refine zo rfl ?_|refine zs ?_|intro _));all_goals(try(conv=>whnf))
  all_goals first|rfl|(exfalso;simp at *;done)
open Go.RowKit Ma
theorem c1i(c:Cf)(t:Tk)(k:Int)(nl:Bool)(ps:List Pc)(hps:ps.length<=1000)(j:Jb)(now:Int)(hl:1<=j.left/\j.left<=1000000)(hs0:0<=j.sec)(hst:j.st=2)(hr:0<=j.pc/\j.pc<(ps.length:Int))(hO:j.ov<=0)(hD:¬IntKind.wrap IntKind.i64 (j.don+1)=j.want)(hS2:j.sec<(t.secs.length:Int)) :
  a0A Tryz.prog 21 [eCf c,eT t,ePl k nl ps,eJ j,.int .i64 now] (jR (a1D c.move now t.secs ps j)):=by
 have hm:=a0M;have hpl:((ps.map eP).length:Int)=ps.length:=by simp
 have hsl:((t.secs.map eS).length:Int)=t.secs.length:=by simp
 have hwf:IntKind.wrap IntKind.i64 (j.left-1)=j.left-1:=a0T (by omega) (by omega)
 have b0:(j.st !=2)=false:=by simp[hst]
 have hR:j.st=2/\0<=j.pc/\j.pc<(ps.length:Int):=⟨hst,hr⟩;have hwp:=b2w hps hr;have b1:decide (j.pc<0)=false:=decide_eq_false (by omega)
 have b2:decide (j.pc≥((ps.map eP).length:Int))=false:=decide_eq_false (by omega)
 have bO:decide (j.ov>0)=false:=decide_eq_false (by omega)
 have nO:(!decide (j.ov>0))=true:=by rw[bO];rfl
 have hS:=hs0;have bD:(IntKind.wrap IntKind.i64 (j.don+1) ==j.want)=false:=by simp[hD]
 have bS2:decide (j.sec<((t.secs.map eS).length:Int))=true:=decide_eq_true (by omega)
 have hsn:j.sec.toNat<t.secs.length:=by omega
 have hs1:(t.secs.map eS)[j.sec.toNat]?=some (.agg [.int .i64 t.secs[j.sec.toNat].res,.int .i64 t.secs[j.sec.toNat].at_,.int .i64 t.secs[j.sec.toNat].len]):=by simp[hsn,eS]
 have hat:atV t.secs j.sec=t.secs[j.sec.toNat].at_:=by simp[atV,hsn]
 generalize t.secs[j.sec.toNat]=x at *
 by_cases hE:x.at_=IntKind.wrap IntKind.i64 (j.don+1)
 ·have bE:(x.at_ ==IntKind.wrap IntKind.i64 (j.don+1))=true:=by simp[hE]
  rw[tw3 (mv:=c.move) (now:=now) hR hO hD ⟨hS,hS2,by rw[hat];exact hE⟩]
  refine Fn.run k21 rfl ?_;generalize Tryz.prog=P at *
  (repeat'((conv=>whnf);first|exact trivial|(with_reducible first|refine zX ?_|refine zP ?_|refine zL ?_)|refine⟨rfl,?_⟩|refine⟨_,rfl,?_⟩|refine⟨fun _=>?_,fun _=>?_⟩|refine zn ?_|refine zb rfl ?_|refine zX ?_|refine zo rfl ?_|refine zs ?_|intro _));all_goals(try(conv=>whnf))
  all_goals first|rfl|(exfalso;simp at *;done)
 ·have bE:(x.at_ ==IntKind.wrap IntKind.i64 (j.don+1))=false:=by simp[hE]
  have hA:¬(0<=j.sec/\j.sec<(t.secs.length:Int)/\atV t.secs j.sec=IntKind.wrap IntKind.i64 (j.don+1)):=fun h=>hE (by rw[<-hat];exact h.2.2)
  by_cases hL:IntKind.wrap IntKind.i64 (j.left-1)=0
  ·have bL:decide (IntKind.wrap IntKind.i64 (j.left-1)>0)=false:=by simp;omega
   by_cases hP:j.pc+1=(ps.length:Int)
   ·have bP:(IntKind.wrap IntKind.i64 (j.pc+1) ==((ps.map eP).length:Int))=true:=by rw[hwp];simp;omega
    have hres:=tw5 (mv:=c.move) (now:=now) hR hO hD hA hL hP;rw[hres];refine Fn.run k21 rfl ?_;generalize Tryz.prog=P at *
    (repeat'((conv=>whnf);first|exact trivial|(with_reducible first|refine zX ?_|refine zP ?_|refine zL ?_)|refine⟨rfl,?_⟩|refine⟨_,rfl,?_⟩|refine⟨fun _=>?_,fun _=>?_⟩|refine zn ?_|refine zb rfl ?_|refine zX ?_|refine zo rfl ?_|refine zs ?_|intro _));all_goals(try(conv=>whnf))
    all_goals first|rfl|(exfalso;simp at *;done)
   ·have bP:(IntKind.wrap IntKind.i64 (j.pc+1) ==((ps.map eP).length:Int))=false:=by rw[hwp];simp;omega
    have hpn:(IntKind.wrap IntKind.i64 (j.pc+1)).toNat<ps.length:=by rw[hwp];omega
    have hp0:0<=IntKind.wrap IntKind.i64 (j.pc+1):=by rw[hwp];omega
    have hp1:(ps.map eP)[(IntKind.wrap IntKind.i64 (j.pc+1)).toNat]?=some (.agg [.int .i64 ps[(IntKind.wrap IntKind.i64 (j.pc+1)).toNat].core,.int .i64 ps[(IntKind.wrap IntKind.i64 (j.pc+1)).toNat].off,.int .i64 ps[(IntKind.wrap IntKind.i64 (j.pc+1)).toNat].len,.int .i64 ps[(IntKind.wrap IntKind.i64 (j.pc+1)).toNat].c]):=by simp[hpn,eP]
    have hres:=tw4 (mv:=c.move) (now:=now) hR hO hD hA hL hP (a4N hpn);rw[hres];generalize ps[(IntKind.wrap IntKind.i64 (j.pc+1)).toNat]=y at *;refine Fn.run k21 rfl ?_;generalize Tryz.prog=P at *
    (repeat'((conv=>whnf);first|exact trivial|(with_reducible first|refine zX ?_|refine zP ?_|refine zL ?_)|refine⟨rfl,?_⟩|refine⟨_,rfl,?_⟩|refine⟨fun _=>?_,fun _=>?_⟩|refine zn ?_|refine zb rfl ?_|refine zX ?_|refine zo rfl ?_|refine zs ?_|intro _));all_goals(try(conv=>whnf))
    all_goals first|rfl|(exfalso;simp at *;done)
  ·have bL:decide (IntKind.wrap IntKind.i64 (j.left-1)>0)=true:=by simp;omega
   have hres:=tw1 (mv:=c.move) (now:=now) hR hO hD hA hL;rw[hres];refine Fn.run k21 rfl ?_;generalize Tryz.prog=P at *
   (repeat'((conv=>whnf);first|exact trivial|(with_reducible first|refine zX ?_|refine zP ?_|refine zL ?_)|refine⟨rfl,?_⟩|refine⟨_,rfl,?_⟩|refine⟨fun _=>?_,fun _=>?_⟩|refine zn ?_|refine zb rfl ?_|refine zX ?_|refine zo rfl ?_|refine zs ?_|intro _));all_goals(try(conv=>whnf))
   all_goals first|rfl|(exfalso;simp at *;done)
open Go.RowKit Ma
theorem c0O(c:Cf)(t:Tk)(k:Int)(nl:Bool)(ps:List Pc)(hps:ps.length<=1000)(j:Jb)(now:Int)(hl:1<=j.left/\j.left<=1000000)(hs0:0<=j.sec)(hst:j.st=2)(hr:0<=j.pc/\j.pc<(ps.length:Int))(hO:j.ov<=0)(hD:¬IntKind.wrap IntKind.i64 (j.don+1)=j.want)(hS2:¬j.sec<(t.secs.length:Int)) :
  a0A Tryz.prog 21 [eCf c,eT t,ePl k nl ps,eJ j,.int .i64 now] (jR (a1D c.move now t.secs ps j)):=by
 have hm:=a0M;have hpl:((ps.map eP).length:Int)=ps.length:=by simp
 have hsl:((t.secs.map eS).length:Int)=t.secs.length:=by simp
 have hwf:IntKind.wrap IntKind.i64 (j.left-1)=j.left-1:=a0T (by omega) (by omega)
 have b0:(j.st !=2)=false:=by simp[hst]
 have hR:j.st=2/\0<=j.pc/\j.pc<(ps.length:Int):=⟨hst,hr⟩;have hwp:=b2w hps hr;have b1:decide (j.pc<0)=false:=decide_eq_false (by omega)
 have b2:decide (j.pc≥((ps.map eP).length:Int))=false:=decide_eq_false (by omega)
 have bO:decide (j.ov>0)=false:=decide_eq_false (by omega)
 have nO:(!decide (j.ov>0))=true:=by rw[bO];rfl
 have hS:=hs0;have bD:(IntKind.wrap IntKind.i64 (j.don+1) ==j.want)=false:=by simp[hD]
 have bS2:decide (j.sec<((t.secs.map eS).length:Int))=false:=decide_eq_false (by omega)
 have hA:¬(0<=j.sec/\j.sec<(t.secs.length:Int)/\atV t.secs j.sec=IntKind.wrap IntKind.i64 (j.don+1)):=fun h=>hS2 h.2.1
 by_cases hL:IntKind.wrap IntKind.i64 (j.left-1)=0
 ·have bL:decide (IntKind.wrap IntKind.i64 (j.left-1)>0)=false:=by simp;omega
  by_cases hP:j.pc+1=(ps.length:Int)
  ·have bP:(IntKind.wrap IntKind.i64 (j.pc+1) ==((ps.map eP).length:Int))=true:=by rw[hwp];simp;omega
   have hres:=tw5 (mv:=c.move) (now:=now) hR hO hD hA hL hP;rw[hres];refine Fn.run k21 rfl ?_;generalize Tryz.prog=P at *
   (repeat'((conv=>whnf);first|exact trivial|(with_reducible first|refine zX ?_|refine zP ?_|refine zL ?_)|refine⟨rfl,?_⟩|refine⟨_,rfl,?_⟩|refine⟨fun _=>?_,fun _=>?_⟩|refine zn ?_|refine zb rfl ?_|refine zX ?_|refine zo rfl ?_|refine zs ?_|intro _));all_goals(try(conv=>whnf))
   all_goals first|rfl|(exfalso;simp at *;done)
  ·have bP:(IntKind.wrap IntKind.i64 (j.pc+1) ==((ps.map eP).length:Int))=false:=by rw[hwp];simp;omega
   have hpn:(IntKind.wrap IntKind.i64 (j.pc+1)).toNat<ps.length:=by rw[hwp];omega
   have hp0:0<=IntKind.wrap IntKind.i64 (j.pc+1):=by rw[hwp];omega
   have hp1:(ps.map eP)[(IntKind.wrap IntKind.i64 (j.pc+1)).toNat]?=some (.agg [.int .i64 ps[(IntKind.wrap IntKind.i64 (j.pc+1)).toNat].core,.int .i64 ps[(IntKind.wrap IntKind.i64 (j.pc+1)).toNat].off,.int .i64 ps[(IntKind.wrap IntKind.i64 (j.pc+1)).toNat].len,.int .i64 ps[(IntKind.wrap IntKind.i64 (j.pc+1)).toNat].c]):=by simp[hpn,eP]
   have hres:=tw4 (mv:=c.move) (now:=now) hR hO hD hA hL hP (a4N hpn);rw[hres];generalize ps[(IntKind.wrap IntKind.i64 (j.pc+1)).toNat]=y at *;refine Fn.run k21 rfl ?_;generalize Tryz.prog=P at *
   (repeat'((conv=>whnf);first|exact trivial|(with_reducible first|refine zX ?_|refine zP ?_|refine zL ?_)|refine⟨rfl,?_⟩|refine⟨_,rfl,?_⟩|refine⟨fun _=>?_,fun _=>?_⟩|refine zn ?_|refine zb rfl ?_|refine zX ?_|refine zo rfl ?_|refine zs ?_|intro _));all_goals(try(conv=>whnf))
   all_goals first|rfl|(exfalso;simp at *;done)
 ·have bL:decide (IntKind.wrap IntKind.i64 (j.left-1)>0)=true:=by simp;omega
  have hres:=tw1 (mv:=c.move) (now:=now) hR hO hD hA hL;rw[hres];refine Fn.run k21 rfl ?_;generalize Tryz.prog=P at *
  (repeat'((conv=>whnf);first|exact trivial|(with_reducible first|refine zX ?_|refine zP ?_|refine zL ?_)|refine⟨rfl,?_⟩|refine⟨_,rfl,?_⟩|refine⟨fun _=>?_,fun _=>?_⟩|refine zn ?_|refine zb rfl ?_|refine zX ?_|refine zo rfl ?_|refine zs ?_|intro _));all_goals(try(conv=>whnf))
  all_goals first|rfl|(exfalso;simp at *;done)
theorem c0G(c:Cf)(t:Tk)(k:Int)(nl:Bool)(ps:List Pc)(hps:ps.length<=1000)(j:Jb)(now:Int)(hl:1<=j.left/\j.left<=1000000)(hs0:0<=j.sec)(hst:j.st=2)(hr:0<=j.pc/\j.pc<(ps.length:Int))(hO:j.ov<=0)(hD:IntKind.wrap IntKind.i64 (j.don+1)=j.want) :
  a0A Tryz.prog 21 [eCf c,eT t,ePl k nl ps,eJ j,.int .i64 now] (jR (a1D c.move now t.secs ps j)):=by
 have hm:=a0M;have hpl:((ps.map eP).length:Int)=ps.length:=by simp
 have hsl:((t.secs.map eS).length:Int)=t.secs.length:=by simp
 have hwf:IntKind.wrap IntKind.i64 (j.left-1)=j.left-1:=a0T (by omega) (by omega)
 have b0:(j.st !=2)=false:=by simp[hst]
 have hR:j.st=2/\0<=j.pc/\j.pc<(ps.length:Int):=⟨hst,hr⟩;have hwp:=b2w hps hr;have b1:decide (j.pc<0)=false:=decide_eq_false (by omega)
 have b2:decide (j.pc≥((ps.map eP).length:Int))=false:=decide_eq_false (by omega)
 have bO:decide (j.ov>0)=false:=decide_eq_false (by omega)
 have nO:(!decide (j.ov>0))=true:=by rw[bO];rfl
 have bD:(IntKind.wrap IntKind.i64 (j.don+1) ==j.want)=true:=by simp[hD]
 have hS:=hs0;rw[tw2 (mv:=c.move) (now:=now) hR hO hD]
 by_cases hS2:j.sec<(t.secs.length:Int)
 ·have bS2:decide (j.sec<((t.secs.map eS).length:Int))=true:=decide_eq_true (by omega)
  have hsn:j.sec.toNat<t.secs.length:=by omega
  have hs1:(t.secs.map eS)[j.sec.toNat]?=some (.agg [.int .i64 t.secs[j.sec.toNat].res,.int .i64 t.secs[j.sec.toNat].at_,.int .i64 t.secs[j.sec.toNat].len]):=by simp[hsn,eS]
  generalize t.secs[j.sec.toNat]=x at *;refine Fn.run k21 rfl ?_;generalize Tryz.prog=P at *
  (repeat'((conv=>whnf);first|exact trivial|(with_reducible first|refine zX ?_|refine zP ?_|refine zL ?_)|refine⟨rfl,?_⟩|refine⟨_,rfl,?_⟩|refine⟨fun _=>?_,fun _=>?_⟩|refine zn ?_|refine zb rfl ?_|refine zX ?_|refine zo rfl ?_|refine zs ?_|intro _));all_goals(try(conv=>whnf))
  all_goals first|rfl|(exfalso;simp at *;done)
 ·have bS2:decide (j.sec<((t.secs.map eS).length:Int))=false:=decide_eq_false (by omega)
  refine Fn.run k21 rfl ?_;generalize Tryz.prog=P at *
  (repeat'((conv=>whnf);first|exact trivial|(with_reducible first|refine zX ?_|refine zP ?_|refine zL ?_)|refine⟨rfl,?_⟩|refine⟨_,rfl,?_⟩|refine⟨fun _=>?_,fun _=>?_⟩|refine zn ?_|refine zb rfl ?_|refine zX ?_|refine zo rfl ?_|refine zs ?_|intro _));all_goals(try(conv=>whnf))
  all_goals first|rfl|(exfalso;simp at *;done)
open Go.RowKit Ma
theorem a5V{α:Type}(m:Nat)(l:List α):(0:Int)<=(if (m:Int)<(l.length:Int) then (m:Int) else (l.length:Int))/\(if (m:Int)<(l.length:Int) then (m:Int) else (l.length:Int))<=(l.length:Int) /\
  l.take (if (m:Int)<(l.length:Int) then (m:Int) else (l.length:Int)).toNat=l.take m:=by
 split
 ·rename_i h
  exact⟨by omega,by omega,by rw[Int.toNat_natCast]⟩
 ·rename_i h
  exact⟨by omega,by omega,by rw[Int.toNat_natCast,List.take_length,List.take_of_length_le (by omega)]⟩
theorem b0t{α:Type}(m:Nat)(k:Int)(hk:k=m)(l:List α):l.take (if k<(l.length:Int) then k else (l.length:Int)).toNat=l.take m:=by subst hk;exact(a5V m l).2.2
theorem a3r{α β:Type}(f : α -> β)(l:List α):(l.map f).isEmpty=l.isEmpty:=by cases l<;>rfl
theorem b9e(nl:Bool)(l:List Ld):a0A Tryz.prog 78 [sL nl l] (.ow 3 (l.take 10).isEmpty ((l.take 10).map eL)):=by
 have hm:=a0M;obtain⟨f1,f2,f3⟩:=a5V 10 (l.map eL);have e:(l.map eL).take 10=(l.take 10).map eL:=by rw[List.map_take]
 have hlen:((l.map eL).take 10).length<=10:=by simp;omega
 have hA1:(([]:List PV).length+((l.map eL).take (if ((10:Nat):Int)<((l.map eL).length:Int) then ((10:Nat):Int) else ((l.map eL).length:Int)).toNat).length)*24<=140737488355328:=by rw[f3];simp only[List.length_nil];omega
 have hA2:([]:List PV).length+((l.map eL).take (if ((10:Nat):Int)<((l.map eL).length:Int) then ((10:Nat):Int) else ((l.map eL).length:Int)).toNat).length<=maxLen:=by rw[f3];simp only[List.length_nil];omega
 refine Fn.run k78 rfl ?_;generalize Tryz.prog=P at *
 (repeat'((conv=>whnf);first|exact trivial|(with_reducible first|refine zX ?_|refine zP ?_|refine zL ?_)|refine⟨rfl,?_⟩|refine⟨_,rfl,?_⟩|refine⟨fun _=>?_,fun _=>?_⟩|refine zn ?_|refine zb rfl ?_|refine zX ?_|refine zo rfl ?_|refine zs ?_|intro _));all_goals(try(conv=>whnf))
 rw[b0t 10 10 rfl, <-List.map_take,a3r]
 rfl
def Cf.cut(c:Cf):Cf:=⟨c.cores,c.syncs,c.lag,c.move,(c.res.take 8).isEmpty,c.res.take 8⟩
def Cf.def0:Cf:=⟨2,1,1,1,false,[0]⟩
def cfV(c:Cf):Cf:=if c.cut.ok then c.cut else Cf.def0
theorem b6Q(c:Cf):a0A Tryz.prog 45 [eCf c] (.p (eCf c.cut)):=by
 have hm:=a0M;obtain⟨f1,f2,f3⟩:=a5V 8 (c.res.map eI);have hlen:((c.res.map eI).take 8).length<=8:=by simp;omega
 have hA1:(([]:List PV).length+((c.res.map eI).take (if ((8:Nat):Int)<((c.res.map eI).length:Int) then ((8:Nat):Int) else ((c.res.map eI).length:Int)).toNat).length)*8<=140737488355328:=by rw[f3];simp only[List.length_nil];omega
 have hA2:([]:List PV).length+((c.res.map eI).take (if ((8:Nat):Int)<((c.res.map eI).length:Int) then ((8:Nat):Int) else ((c.res.map eI).length:Int)).toNat).length<=maxLen:=by rw[f3];simp only[List.length_nil];omega
 refine Fn.run k45 rfl ?_;generalize Tryz.prog=P at *
 (repeat'((conv=>whnf);first|exact trivial|(with_reducible first|refine zX ?_|refine zP ?_|refine zL ?_)|refine⟨rfl,?_⟩|refine⟨_,rfl,?_⟩|refine⟨fun _=>?_,fun _=>?_⟩|refine zn ?_|refine zb rfl ?_|refine zX ?_|refine zo rfl ?_|refine zs ?_|intro _));all_goals(try(conv=>whnf))
 rw[b0t 8 8 rfl, <-List.map_take,a3r]
 rfl
theorem b6N(c:Cf):a0A Tryz.prog 16 [eCf c] (.p (eCf (cfV c))):=by
 have h1:=b6Q c;have h2:=b6C c.cut (by simp[Cf.cut];omega)
 unfold cfV
 cases hok:c.cut.ok with
 |true=>
  rw[hok] at h2;rw[if_pos rfl];generalize c.cut=d at *;simp only[eCf] at *;refine Fn.run k16 rfl ?_;generalize Tryz.prog=P at *
  (repeat'((conv=>whnf);first|exact trivial|(with_reducible first|refine zX ?_|refine zP ?_|refine zL ?_)|refine⟨rfl,?_⟩|refine⟨_,rfl,?_⟩|refine⟨fun _=>?_,fun _=>?_⟩|refine zn ?_|refine zb rfl ?_|refine zX ?_|refine zo rfl ?_|refine zs ?_|intro _));all_goals(try(conv=>whnf))
  all_goals rfl
 |false=>
  rw[hok] at h2;rw[if_neg (by decide)]
  generalize c.cut=d at *;simp only[eCf] at *;refine Fn.run k16 rfl ?_;generalize Tryz.prog=P at *
  (repeat'((conv=>whnf);first|exact trivial|(with_reducible first|refine zX ?_|refine zP ?_|refine zL ?_)|refine⟨rfl,?_⟩|refine⟨_,rfl,?_⟩|refine⟨fun _=>?_,fun _=>?_⟩|refine zn ?_|refine zb rfl ?_|refine zX ?_|refine zo rfl ?_|refine zs ?_|intro _));all_goals(try(conv=>whnf))
  all_goals rfl
noncomputable def keep (l:List Ld):List Ld:=if a1W (l.take 10) then l.take 10 else []
noncomputable def a1z (ls:LL) (k:Nat):List Ld:=match ls[k]? with
 |some p=>keep p.2
 |none=>[]
noncomputable def a2T (n:Nat) (ls:LL):List (List Ld):=(List.range n).map (a1z ls)
def eLd(x:List Ld):Bool×List Ld:=(x.isEmpty,x)
structure CoInv (n:Nat) (ls:LL) (i:Nat) (rows:List (List DV)):Prop where
 len:rows.length=n
 at_:∀k,k<n->∃d,rows[k]?=some [d]/\((d=.ow 3 true []/\(k<i->a1z ls k=[]))\/d=.p (eC (eLd (a1z ls k))))
theorem b4t{n:Nat}{ls:LL}{i:Nat}{rows:List (List DV)}(h:CoInv n ls i rows)(hi:n<=i\/ls.length<=i):a0N rows=(a2T n ls).map fun x=>[DV.p (eC (eLd x))]:=by
 rw[a3V]
 apply List.ext_getElem?
 intro k;rw[List.getElem?_map,List.getElem?_map]
 by_cases hk:k<n
 ·obtain⟨d,h1,h2⟩:=h.at_ k hk
  have e:(a2T n ls)[k]?=some (a1z ls k):=by simp[a2T,hk]
  rw[h1,e];simp only[Option.map_some];rcases h2 with ⟨rfl,h2⟩|rfl
  ·have:a1z ls k=[]:=by
    by_cases hki:k<i
    ·exact h2 hki
    ·have:ls[k]?=none:=List.getElem?_eq_none (by omega)
     simp[a1z,this]
   rw[this];rfl
  ·rfl
 ·have e1:rows[k]?=none:=List.getElem?_eq_none (by rw[h.len];omega)
  have e2:(a2T n ls)[k]?=none:=List.getElem?_eq_none (by simp[a2T];omega)
  rw[e1,e2];rfl
theorem b2l{n:Nat}{ls:LL}{i:Nat}{rows:List (List DV)}(h:CoInv n ls i rows)(hi:i<n){v:DV}(hv:v=.p (eC (eLd (a1z ls i)))):CoInv n ls (i+1) (a0I rows i [v]):=by
 refine⟨by rw[a0D,h.len],fun k hk=>?_⟩
 obtain⟨d,h1,h2⟩:=h.at_ k hk;rw[getElem?_setL]
 by_cases e:k=i
 ·subst e;rw[if_pos rfl,h1];exact⟨v,rfl,.inr hv⟩
 ·rw[if_neg e];exact⟨d,h1,h2.imp (fun h=>⟨h.1,fun hk=>h.2 (by omega)⟩) id⟩
theorem b2o{n:Nat}{ls:LL}{i:Nat}{rows:List (List DV)}(h:CoInv n ls i rows)(he:a1z ls i=[]):CoInv n ls (i+1) rows:=by
 refine⟨h.len,fun k hk=>?_⟩
 obtain⟨d,h1,h2⟩:=h.at_ k hk;refine⟨d,h1,h2.imp (fun h=>⟨h.1,fun hk=>?_⟩) id⟩
 by_cases e:k=i
 ·subst e;exact he
 ·exact h.2 (by omega)
theorem b4Q{α:Type}(f : α->PV)(l:List α):a0h (l.map fun x=>[DV.p (f x)])=true:=by
 induction l with
 |nil=>rfl
 |cons a l ih=>simp[a0h,b6K,DV.isP,ih]
theorem b4p{α:Type}(f : α->PV)(l:List α):a4C false (l.map fun x=>[DV.p (f x)])=some (l.map f):=by
 induction l with
 |nil=>rfl
 |cons a l ih=>simp[a4C,a2m,ih]
theorem b3z{b:List (Option Box)}{k size n:Nat}{ag:Bool}{bx:Box}{rows:List PV}(hb:a1A b k=some bx)(h:bx.live=false/\(ag=true\/size=1)/\size=bx.size/\n=bx.rows.length)
  (hr:a4C ag bx.rows=some rows):DV.frz b (.bs k size ag 0 n)=some (.sl size false rows):=by
 simp only[DV.frz,hb];rw[if_pos ⟨h.1,h.2.1,h.2.2.1,trivial,h.2.2.2⟩,hr]
theorem b4i{b:List (Option Box)}{d:DV}{x:PV}{N:PV->Prop}(h:DV.frz b d=some x)(hn:N x):(match DV.frz b d with|some x=>N x|none=>False):=by rw[h];exact hn
theorem b8m(c:Cf)(n:Nat)(hn:c.cores=n)(hn2:n<=1000)(nl:Bool)(ls:LL):a0A Tryz.prog 49 [eCf c,sLL nl ls] (.p (sLL false ((a2T n ls).map eLd))):=by
 have hm:=a0M;obtain⟨cc,c1,c2,c3,c4,c5⟩:=c;simp only at hn;subst hn;have hld:=fun (p:Bool×List Ld)=>b9e p.1 p.2
 have hft:=fun (p:Bool×List Ld)=>c1b (p.2.take 10).isEmpty (p.2.take 10)
 have g1:(0:Int)<=(n:Int):=by omega
 have g2:(n:Int)*24<=140737488355328:=by omega
 have g3:(n:Int)<=maxLen:=by omega
 refine Fn.run k49 rfl ?_;generalize Tryz.prog=P at *
 (repeat'((conv=>whnf);first|exact trivial|(with_reducible first|refine zX ?_|refine zP ?_|refine zL ?_)|refine⟨rfl,?_⟩|refine⟨_,rfl,?_⟩|refine⟨fun _=>?_,fun _=>?_⟩|refine zn ?_|refine zb rfl ?_|refine zX ?_|refine zo rfl ?_|refine zs ?_|intro _));all_goals(try(conv=>whnf))
 refine a0O (fun m s=>∃(i:Nat) (rows:List (List DV)),m+i=n/\CoInv n ls i rows /\
  s=⟨mkT 35 [(1,.p (sLL nl ls)),(2,.addr 0 5 0 0),(5,.bs 1 1 false 0 n),(6,.p (.int .i64 i))],[some (bCf ⟨n,c1,c2,c3,c4,c5⟩ true),some ⟨true,1,rows,false⟩]⟩) n ?_ ?_
 ·conv=>whnf
  refine⟨0,List.replicate n [.ow 3 true []],rfl,⟨by simp,fun k hk=>⟨.ow 3 true [],by simp[hk],.inl ⟨rfl,fun h=>absurd h (Nat.not_lt_zero k)⟩⟩⟩,?_⟩
  rfl
 ·rintro m st b N ⟨i,rows,hmi,hI,e⟩ hN
  cases e
  by_cases hlt:i<n/\i<ls.length
  ·obtain⟨hl1,hl2⟩:=hlt
   have hrow:(ls.map eC)[i]?=some (sL ls[i].1 ls[i].2):=by simp[hl2,eC]
   have hb1:decide ((i:Int)<(n:Int))=true:=a7Y hl1;have hb:=a7Y (n:=(ls.map eC).length) (by simpa using hl2)
   have h1:=hld ls[i];have h2:=hft ls[i];obtain⟨d,hd,_⟩:=hI.at_ i hl1;have hd':rows[0+((i:Int)).toNat]?=some [d]:=by simpa using hd
   have hil:(i:Int)<(n:Int):=by omega
   have hca:a1z ls i=keep ls[i].2:=by simp[a1z,hl2]
   generalize ls[i]=p at *
   cases hfit:a1W (p.2.take 10) with
   |true=>
    rw[hfit] at h2
    (repeat'((conv=>whnf);first|exact trivial|(with_reducible first|refine zX ?_|refine zP ?_|refine zL ?_)|refine⟨rfl,?_⟩|refine⟨_,rfl,?_⟩|refine⟨fun _=>?_,fun _=>?_⟩|refine zn ?_|refine zb rfl ?_|refine zX ?_|refine zo rfl ?_|refine zs ?_|intro _));all_goals(try(conv=>whnf))
    rw[a2F (n:=n) hl1 (by omega)]
    refine hN (m-1) _ (by omega) ⟨i+1,_,by omega,b2l hI hl1 (v:=.p (eC (eLd (p.2.take 10)))) ?_,?_⟩
    ·rw[hca];unfold keep;rw[if_pos hfit]
    ·simp only[Int.toNat_natCast,Nat.zero_add]
     rfl
   |false=>
    rw[hfit] at h2
    (repeat'((conv=>whnf);first|exact trivial|(with_reducible first|refine zX ?_|refine zP ?_|refine zL ?_)|refine⟨rfl,?_⟩|refine⟨_,rfl,?_⟩|refine⟨fun _=>?_,fun _=>?_⟩|refine zn ?_|refine zb rfl ?_|refine zX ?_|refine zo rfl ?_|refine zs ?_|intro _));all_goals(try(conv=>whnf))
    rw[a2F (n:=n) hl1 (by omega)]
    refine hN (m-1) _ (by omega) ⟨i+1,rows,by omega,b2o hI ?_,rfl⟩
    rw[hca];unfold keep;rw[if_neg (by rw[hfit];decide)]
  ·have hend:=b4t hI (by omega)
   have hlen:(a0N rows).length=n:=by rw[hend];simp[a2T]
   have hap:a0h (a0N rows)=true:=by rw[hend];exact b4Q _ _
   have hrp:a4C false (a0N rows)=some (((a2T n ls).map eLd).map eC):=by rw[hend,b4p (fun x=>eC (eLd x)),List.map_map];rfl
   by_cases hl1:i<n
   ·have hb1:decide ((i:Int)<(n:Int))=true:=a7Y hl1
    have hb:=a8R (i:=i) (n:=(ls.map eC).length) (by simp;omega)
    (repeat'((conv=>whnf);first|exact trivial|(with_reducible first|refine zX ?_|refine zP ?_|refine zL ?_)|refine⟨rfl,?_⟩|refine⟨_,rfl,?_⟩|refine⟨fun _=>?_,fun _=>?_⟩|refine zn ?_|refine zb rfl ?_|refine zX ?_|refine zo rfl ?_|refine zs ?_|intro _));all_goals(try(conv=>whnf))
    all_goals (try refine And.intro hap ?_)
    all_goals exact b4i (b3z (k:=1) (size:=1) (n:=n) (ag:=false) (bx:=⟨false,1,a0N rows,false⟩) rfl ⟨rfl,.inr rfl,rfl,hlen.symm⟩ hrp) rfl
   ·have hb1:decide ((i:Int)<(n:Int))=false:=a8R hl1
    (repeat'((conv=>whnf);first|exact trivial|(with_reducible first|refine zX ?_|refine zP ?_|refine zL ?_)|refine⟨rfl,?_⟩|refine⟨_,rfl,?_⟩|refine⟨fun _=>?_,fun _=>?_⟩|refine zn ?_|refine zb rfl ?_|refine zX ?_|refine zo rfl ?_|refine zs ?_|intro _));all_goals(try(conv=>whnf))
    all_goals (try refine And.intro hap ?_)
    all_goals exact b4i (b3z (k:=1) (size:=1) (n:=n) (ag:=false) (bx:=⟨false,1,a0N rows,false⟩) rfl ⟨rfl,.inr rfl,rfl,hlen.symm⟩ hrp) rfl
open Go.RowKit Ma
theorem b9Z:Cf.def0.ok=true:=by decide
theorem c1Y(c:Cf):(cfV c).ok=true:=by
 unfold cfV
 split
 ·assumption
 ·exact b9Z
theorem b9b{c:Cf}(h:c.ok=true):a6M c/\c.res.length<=6:=by
 unfold Cf.ok at h;simp only[bAt,decide_eq_true_eq] at h;exact⟨h.1,h.2.1⟩
theorem b6w(l:List Ld):(keep l).length<=10:=by
 unfold keep
 split
 ·simp;omega
 ·simp
theorem b5T(l:List Ld):a1W (keep l)=true:=by
 unfold keep
 split
 ·assumption
 ·rw[a1g];exact⟨by decide,.inl rfl⟩
theorem b2i(ls:LL)(k:Nat):(a1z ls k).length<=10:=by
 unfold a1z
 split
 ·exact b6w _
 ·simp
theorem b1I(ls:LL)(k:Nat):a1W (a1z ls k)=true:=by
 unfold a1z
 split
 ·exact b5T _
 ·rw[a1g];exact⟨by decide,.inl rfl⟩
theorem b3R{n:Nat}{ls:LL}{y:List Ld}(h:y∈a2T n ls):y.length<=10:=by
 obtain⟨k,_,rfl⟩:=List.mem_map.1 h;exact b2i _ _
theorem b1A{n:Nat}{ls:LL}{y:List Ld}(h:y∈a2T n ls):a1W y=true:=by
 obtain⟨k,_,rfl⟩:=List.mem_map.1 h;exact b1I _ _
theorem a8l(n:Nat)(ls:LL):(a2T n ls).length=n:=by simp[a2T]
theorem b8O{L:List (List Ld)}(h:∀y,y∈L->y.length<=10)(hn:L.length<=1000):LLok (L.map eLd):=by
 refine⟨fun p hp h1=>?_,fun p hp=>?_,by simpa using hn⟩
 ·obtain⟨y,_,rfl⟩:=List.mem_map.1 hp
  exact List.isEmpty_iff.1 h1
 ·obtain⟨y,hy,rfl⟩:=List.mem_map.1 hp
  have:=h y hy;simp only[eLd];omega
open Go.RowKit Ma
def eQ(p:Ma.Place):PV:=.agg [.int .i64 p.core,.int .i64 p.x]
def rQ(p:Ma.Place):List DV:=[.p (.int .i64 p.core),.p (.int .i64 p.x)]
def b5j(a b:Int):Int:=if a<b then -1 else if a>b then 1 else 0
theorem b2S(a b:Int):decide (b5j a b<0)=decide (a<b):=by
 unfold b5j
 split
 ·rename_i h;simp[h]
 ·rename_i h;split<;>simp[h]
theorem c0E(a:Int):a0A Tryz.prog 97 [.int .i64 a] (.p (.bool false)):=by
 refine Fn.run k97 rfl ?_;generalize Tryz.prog=P at *
 (repeat'((conv=>whnf);first|exact trivial|(with_reducible first|refine zX ?_|refine zP ?_|refine zL ?_)|refine⟨rfl,?_⟩|refine⟨_,rfl,?_⟩|refine⟨fun _=>?_,fun _=>?_⟩|refine zn ?_|refine zb rfl ?_|refine zX ?_|refine zo rfl ?_|refine zs ?_|intro _));all_goals(try(conv=>whnf))
 all_goals exact a0J (by simp)
theorem c1N(a:Int):a0A Tryz.prog 98 [.int .i64 a] (.p (.bool false)):=by
 refine Fn.run k98 rfl ?_;generalize Tryz.prog=P at *
 (repeat'((conv=>whnf);first|exact trivial|(with_reducible first|refine zX ?_|refine zP ?_|refine zL ?_)|refine⟨rfl,?_⟩|refine⟨_,rfl,?_⟩|refine⟨fun _=>?_,fun _=>?_⟩|refine zn ?_|refine zb rfl ?_|refine zX ?_|refine zo rfl ?_|refine zs ?_|intro _));all_goals(try(conv=>whnf))
 all_goals exact a0J (by simp)
theorem c4u(a b:Int):a0A Tryz.prog 67 [.int .i64 a,.int .i64 b] (.p (.int .i64 (b5j a b))):=by
 have h1:=c0E a;have h2:=c0E b;refine Fn.run k67 rfl ?_;generalize Tryz.prog=P at *
 (repeat'((conv=>whnf);first|exact trivial|(with_reducible first|refine zX ?_|refine zP ?_|refine zL ?_)|refine⟨rfl,?_⟩|refine⟨_,rfl,?_⟩|refine⟨fun _=>?_,fun _=>?_⟩|refine zn ?_|refine zb rfl ?_|refine zX ?_|refine zo rfl ?_|refine zs ?_|intro _));all_goals(try(conv=>whnf))
 all_goals (refine a0Y ?_;unfold b5j;simp only[decide_eq_true_eq,decide_eq_false_iff_not] at *;repeat' split)<;>omega
theorem c4r(a b:Int):a0A Tryz.prog 68 [.int .i64 a,.int .i64 b] (.p (.int .i64 (b5j a b))):=by
 have h1:=c1N a;have h2:=c1N b;refine Fn.run k68 rfl ?_;generalize Tryz.prog=P at *
 (repeat'((conv=>whnf);first|exact trivial|(with_reducible first|refine zX ?_|refine zP ?_|refine zL ?_)|refine⟨rfl,?_⟩|refine⟨_,rfl,?_⟩|refine⟨fun _=>?_,fun _=>?_⟩|refine zn ?_|refine zb rfl ?_|refine zX ?_|refine zo rfl ?_|refine zs ?_|intro _));all_goals(try(conv=>whnf))
 all_goals (refine a0Y ?_;unfold b5j;simp only[decide_eq_true_eq,decide_eq_false_iff_not] at *;repeat' split)<;>omega
theorem c4q(a b:Ma.Place):a0A Tryz.prog 132 [eQ a,eQ b] (.p (.int .i64 (b5j b.x a.x))):=by
 have h1:=c4u b.x a.x;refine Fn.run c3F rfl ?_;generalize Tryz.prog=P at *
 (repeat'((conv=>whnf);first|exact trivial|(with_reducible first|refine zX ?_|refine zP ?_|refine zL ?_)|refine⟨rfl,?_⟩|refine⟨_,rfl,?_⟩|refine⟨fun _=>?_,fun _=>?_⟩|refine zn ?_|refine zb rfl ?_|refine zX ?_|refine zo rfl ?_|refine zs ?_|intro _));all_goals(try(conv=>whnf))
 all_goals exact a0Y rfl
theorem c4d(a b:Ma.Place):a0A Tryz.prog 134 [eQ a,eQ b] (.p (.int .i64 (b5j a.core b.core))):=by
 have h1:=c4r a.core b.core;refine Fn.run c3T rfl ?_;generalize Tryz.prog=P at *
 (repeat'((conv=>whnf);first|exact trivial|(with_reducible first|refine zX ?_|refine zP ?_|refine zL ?_)|refine⟨rfl,?_⟩|refine⟨_,rfl,?_⟩|refine⟨fun _=>?_,fun _=>?_⟩|refine zn ?_|refine zb rfl ?_|refine zX ?_|refine zo rfl ?_|refine zs ?_|intro _));all_goals(try(conv=>whnf))
 all_goals exact a0Y rfl
theorem a1O(l:List Ma.Place):a0h (l.map rQ)=true:=by
 induction l with
 |nil=>rfl
 |cons a l ih=>simp[a0h,b6K,rQ,DV.isP,ih]
theorem c4U(X Y:List Ma.Place)(b e:Ma.Place):a0I (a0I ((X++b ::e ::Y).map rQ) (X.length+1) (rQ b)) X.length (rQ e)=(X++e ::b ::Y).map rQ:=by
 induction X with
 |nil=>rfl
 |cons x X ih=>simp only[List.cons_append,List.map_cons,List.length_cons,a0I];rw[<-ih]
theorem a9F(lt:Ma.Place->Ma.Place->Bool)(f:FuncId)(cv:Ma.Place->Ma.Place->Int)(hf:∀a b,a0A Tryz.prog f [eQ a,eQ b] (.p (.int .i64 (cv a b))))(hlt:∀a b,decide (cv a b<0)=lt a b)(l:List Ma.Place)(hl:l.length<=1000)(ag:Bool) :
  a4f Tryz.prog 198 2 [.bs 0 2 ag 0 l.length,.p (.int .i64 0),.p (.int .i64 l.length),.p (.fn f [])] (l.map rQ) ((a0w lt l).map rQ) (.tup []):=by
 have hm:=a0M;refine Fn.runM c4n rfl (a1O _) (a1O _) rfl (by decide) ?_
 generalize Tryz.prog=P at *
 (repeat'((conv=>whnf);first|exact trivial|(with_reducible first|refine zX ?_|refine zP ?_|refine zL ?_)|refine⟨rfl,?_⟩|refine⟨_,rfl,?_⟩|refine⟨fun _=>?_,fun _=>?_⟩|refine zn ?_|refine zb rfl ?_|refine zX ?_|refine zo rfl ?_|refine zs ?_|intro _));all_goals(try(conv=>whnf))
 refine a0O (fun m s=>∃(i:Nat) (rows:List (List DV)),m=l.length-i/\1<=i/\i<=l.length+1/\rows=((a5S lt (l.take i)).reverse++l.drop i).map rQ /\
  s=⟨mkT 53 [(0,.bs 0 2 ag 0 l.length),(1,.p (.int .i64 0)),(2,.p (.int .i64 l.length)),(3,.p (.fn f [])),(8,.p (.int .i64 i))],[some ⟨true,2,rows,true⟩]⟩) (l.length-1) ?_ ?_
 ·conv=>whnf
  refine⟨1,l.map rQ,rfl,Nat.le_refl _,by omega,?_,rfl⟩
  cases l with
  |nil=>rfl
  |cons a l=>simp[a5S,a1V]
 ·rintro m st bb N ⟨i,rows,hmi,h1,h2,hrows,e⟩ hN
  cases e
  by_cases hlt2:i<l.length
  ·have hb:decide ((i:Int)<(l.length:Int))=true:=a7Y hlt2
   (repeat'((conv=>whnf);first|exact trivial|(with_reducible first|refine zX ?_|refine zP ?_|refine zL ?_)|refine⟨rfl,?_⟩|refine⟨_,rfl,?_⟩|refine⟨fun _=>?_,fun _=>?_⟩|refine zn ?_|refine zb rfl ?_|refine zX ?_|refine zo rfl ?_|refine zs ?_|intro _));all_goals(try(conv=>whnf))
   refine a0O (fun m s=>∃(rest ps:List Ma.Place) (rows:List (List DV)),m=rest.length/\ps.length+rest.length=i/\a1V lt l[i] (a5S lt (l.take i))=ps++a1V lt l[i] rest /\
    rows=((rest.reverse++l[i] ::ps.reverse)++l.drop (i+1)).map rQ /\
    s=⟨mkT 53 [(0,.bs 0 2 ag 0 l.length),(1,.p (.int .i64 0)),(2,.p (.int .i64 l.length)),(3,.p (.fn f [])),(8,.p (.int .i64 i)),(9,.p (.int .i64 rest.length))],[some ⟨true,2,rows,true⟩]⟩) i ?_ ?_
   ·conv=>whnf
    have hil:(a5S lt (l.take i)).length=i:=by rw[(a7a lt _).length_eq];simp;omega
    refine⟨a5S lt (l.take i),[],rows,hil.symm,by simpa using hil,rfl,?_,?_⟩
    ·rw[hrows,List.drop_eq_getElem_cons hlt2];simp
    ·rw[hil];rfl
   ·rintro m2 st2 bb2 N2 ⟨rest,ps,rows2,hm2,hps,hins,hrows2,e⟩ hN2
    cases e
    have hnext:(a5S lt (l.take (i+1)))=ps++a1V lt l[i] rest:=by
     rw[<-hins, <-a9t,List.take_succ_eq_append_getElem hlt2]
    generalize hx:l[i]=x at *
    cases rest with
    |nil=>
     have d1:decide ((([]:List Ma.Place).length:Int)>0)=false:=by decide
     (repeat'((conv=>whnf);first|exact trivial|(with_reducible first|refine zX ?_|refine zP ?_|refine zL ?_)|refine⟨rfl,?_⟩|refine⟨_,rfl,?_⟩|refine⟨fun _=>?_,fun _=>?_⟩|refine zn ?_|refine zb rfl ?_|refine zX ?_|refine zo rfl ?_|refine zs ?_|intro _));all_goals(try(conv=>whnf))
     rw[a2F (n:=l.length) hlt2 (by omega)]
     refine hN (l.length-(i+1)) _ (by omega) ⟨i+1,rows2,rfl,by omega,by omega,?_,rfl⟩
     rw[hrows2,hnext];simp[a1V]
    |cons b rest=>
     have d1:decide ((((b ::rest).length:Nat):Int)>0)=true:=decide_eq_true (by simp only[List.length_cons];omega)
     have hj:rest.length+1<=i:=by simp at hps;omega
     have w1:IntKind.wrap .i64 ((((b ::rest).length:Nat):Int)-1)=(rest.length:Int):=by rw[a0T (by simp only[List.length_cons];omega) (by simp only[List.length_cons];omega)];simp only[List.length_cons];omega
     have e1:(((b ::rest).length:Nat):Int)<(l.length:Int):=by simp only[List.length_cons];omega
     have e2:(0:Int)<=IntKind.wrap .i64 ((((b ::rest).length:Nat):Int)-1):=by rw[w1];omega
     have e3:IntKind.wrap .i64 ((((b ::rest).length:Nat):Int)-1)<(l.length:Int):=by rw[w1];omega
     have r0:rows2=((rest.reverse++b ::x ::ps.reverse)++l.drop (i+1)).map rQ:=by rw[hrows2];simp
     have g1:rows2[0+(((b ::rest).length:Nat):Int).toNat]?=some (rQ x):=by
      rw[r0,List.getElem?_map,Int.toNat_natCast,Nat.zero_add];simp
     have g2:rows2[0+(IntKind.wrap .i64 ((((b ::rest).length:Nat):Int)-1)).toNat]?=some (rQ b):=by
      rw[w1,r0,List.getElem?_map,Int.toNat_natCast,Nat.zero_add];simp
     have g3:(a0I rows2 (0+(((b ::rest).length:Nat):Int).toNat) (rQ b))[0+(IntKind.wrap .i64 ((((b ::rest).length:Nat):Int)-1)).toNat]?=some (rQ b):=by
      rw[getElem?_setL,if_neg (by rw[w1];simp only[Int.toNat_natCast,List.length_cons];omega)]
      exact g2
     have hc:=hf x b;have hcl:=hlt x b
     cases hl2:lt x b with
     |true=>
      rw[hl2] at hcl
      (repeat'((conv=>whnf);first|exact trivial|(with_reducible first|refine zX ?_|refine zP ?_|refine zL ?_)|refine⟨rfl,?_⟩|refine⟨_,rfl,?_⟩|refine⟨fun _=>?_,fun _=>?_⟩|refine zn ?_|refine zb rfl ?_|refine zX ?_|refine zo rfl ?_|refine zs ?_|intro _));all_goals(try(conv=>whnf))
      rw[w1];refine hN2 rest.length _ (by rw[hm2];simp) ⟨rest,ps++[b],_,rfl,by simp at hps ⊢;omega,?_,?_,rfl⟩
      ·rw[hins];simp[a1V,hl2]
      ·have hsw:=c4U rest.reverse (ps.reverse++l.drop (i+1)) b x
       simp only[List.length_reverse] at hsw;simp only[Int.toNat_natCast,Nat.zero_add,List.length_cons];rw[r0];simp only[List.append_assoc,List.cons_append,List.reverse_append,List.reverse_cons,List.reverse_nil,List.nil_append] at hsw ⊢;exact hsw
     |false=>
      rw[hl2] at hcl
      (repeat'((conv=>whnf);first|exact trivial|(with_reducible first|refine zX ?_|refine zP ?_|refine zL ?_)|refine⟨rfl,?_⟩|refine⟨_,rfl,?_⟩|refine⟨fun _=>?_,fun _=>?_⟩|refine zn ?_|refine zb rfl ?_|refine zX ?_|refine zo rfl ?_|refine zs ?_|intro _));all_goals(try(conv=>whnf))
      rw[a2F (n:=l.length) hlt2 (by omega)]
      refine hN (l.length-(i+1)) _ (by omega) ⟨i+1,rows2,rfl,by omega,by omega,?_,rfl⟩
      rw[hrows2,hnext];simp[a1V,hl2]
  ·have hb:decide ((i:Int)<(l.length:Int))=false:=a8R hlt2
   (repeat'((conv=>whnf);first|exact trivial|(with_reducible first|refine zX ?_|refine zP ?_|refine zL ?_)|refine⟨rfl,?_⟩|refine⟨_,rfl,?_⟩|refine⟨fun _=>?_,fun _=>?_⟩|refine zn ?_|refine zb rfl ?_|refine zX ?_|refine zo rfl ?_|refine zs ?_|intro _));all_goals(try(conv=>whnf))
   refine⟨?_,rfl⟩
   show some (⟨true,2,rows,true⟩:Box)=_
   rw[hrows,List.take_of_length_le (by omega),List.drop_of_length_le (by omega),List.append_nil]
   rfl
end Go.Proofs.YtnjphclbpgajpaaGreatDoor.Vc
