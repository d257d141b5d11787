/- Part of a proof over a Go program: Cc, Cd, Rd, Ent, Cp, Cpl, Fj, Fl, Cj, Enj, Ft, VcTr, Mr, MaHp, VcNo, Ch, Chs, Chr, Chd, Chp, Cbe. No condition. -/
import Derived.Test.YtnjphclbpgajpaaGreatDoorW08
import Derived.Test.YtnjphclbpgajpaaGreatDoorW01
import Derived.Test.YtnjphclbpgajpaaGreatDoorChecked
import Derived.ProofKit
import Derived.LaidMore
import Derived.OpenShut
import Derived.Stop.Joined
import Derived.Lay
import Derived.SevenTiedAt
import Derived.Test.YtnjphclbpgajpaaGreatDoorRows
import Derived.Test.YtnjphclbpgajpaaGreatDoorProg
set_option linter.unnecessarySimpa false
set_option linter.unusedSectionVars false
set_option linter.unusedSimpArgs false
set_option linter.unusedVariables false
set_option maxHeartbeats 4000000
set_option maxRecDepth 100000
namespace Go.Proofs.YtnjphclbpgajpaaGreatDoor.Vc
open Go.RowKit Ma
theorem k6:maxLen=9223372036854775807:=by decide
theorem JG(nl:Bool)(l:List Ld)(hnl:nl=true->l=[])(hl:l.length<=1000):aO Tryz.prog 137 [sL nl l] (.ow 3 nl (l.map eL)):=by
 have hm:=k6
 cases nl with
 |true=>
  have:=hnl rfl;subst this;refine Fn.run JL rfl ?_;generalize Tryz.prog=P at *
  (repeat'((conv=>whnf);first|exact trivial|(with_reducible first|refine zX ?_|refine zP ?_|refine zL ?_)|refine⟨rfl,?_⟩|refine⟨_,rfl,?_⟩|refine⟨fun _=>?_,fun _=>?_⟩|refine zn ?_|refine zb rfl ?_|refine zX ?_|refine zo rfl ?_|refine zs ?_|intro _));all_goals(try(conv=>whnf))
  all_goals rfl
 |false=>
  refine Fn.run JL rfl ?_;generalize Tryz.prog=P at *
  (repeat'((conv=>whnf);first|exact trivial|(with_reducible first|refine zX ?_|refine zP ?_|refine zL ?_)|refine⟨rfl,?_⟩|refine⟨_,rfl,?_⟩|refine⟨fun _=>?_,fun _=>?_⟩|refine zn ?_|refine zb rfl ?_|refine zX ?_|refine zo rfl ?_|refine zs ?_|intro _));all_goals(try(conv=>whnf))
  all_goals rfl
theorem WL(nl:Bool)(l:List Ld)(x:Ld):PV.sl 3 nl (l.map eL++[eL x])=sL nl (l++[x]):=by simp[sL]
theorem DI(nl:Bool)(l:List Ld)(hnl:nl=true->l=[])(hl:l.length<=1000)(x:Ld):aO Tryz.prog 170 [sL nl l,eL x] (.p (.bool (kN (l++[x])))):=by
 have hm:=k6;have hc:=JG nl l hnl hl;have hf:=z8 false (l++[x]);rw[<-WL] at hf
 cases nl with
 |true=>
  refine Fn.run I7 rfl ?_;generalize Tryz.prog=P at *
  (repeat'((conv=>whnf);first|exact trivial|(with_reducible first|refine zX ?_|refine zP ?_|refine zL ?_)|refine⟨rfl,?_⟩|refine⟨_,rfl,?_⟩|refine⟨fun _=>?_,fun _=>?_⟩|refine zn ?_|refine zb rfl ?_|refine zX ?_|refine zo rfl ?_|refine zs ?_|intro _));all_goals(try(conv=>whnf))
  all_goals rfl
 |false=>
  refine Fn.run I7 rfl ?_;generalize Tryz.prog=P at *
  (repeat'((conv=>whnf);first|exact trivial|(with_reducible first|refine zX ?_|refine zP ?_|refine zL ?_)|refine⟨rfl,?_⟩|refine⟨_,rfl,?_⟩|refine⟨fun _=>?_,fun _=>?_⟩|refine zn ?_|refine zb rfl ?_|refine zX ?_|refine zo rfl ?_|refine zs ?_|intro _));all_goals(try(conv=>whnf))
  all_goals rfl
structure Sec where
 res:Int
 at_:Int
 len:Int
deriving DecidableEq
structure Tk where
 C:Int
 D:Int
 T:Int
 nl:Bool
 secs:List Sec
theorem JT(nl:Bool)(l:List Ld)(d t:Int):aO Tryz.prog 169 [sL nl l,.int .i64 d,.int .i64 t] (.p (.bool (s9 l d t))):=by
 have hf:=z8 nl l;refine Fn.run KY rfl ?_;generalize Tryz.prog=P at *
 (repeat'((conv=>whnf);first|exact trivial|(with_reducible first|refine zX ?_|refine zP ?_|refine zL ?_)|refine⟨rfl,?_⟩|refine⟨_,rfl,?_⟩|refine⟨fun _=>?_,fun _=>?_⟩|refine zn ?_|refine zb rfl ?_|refine zX ?_|refine zo rfl ?_|refine zs ?_|intro _));all_goals(try(conv=>whnf))
 all_goals (refine cX (Bool.eq_iff_iff.2 ?_);simp only[s9,List.length_map,b6,Bool.or_eq_true,Bool.and_eq_false_iff,Bool.or_eq_false_iff,decide_eq_true_eq,decide_eq_false_iff_not,Bool.not_eq_true',Bool.not_eq_false',Bool.false_eq_true,Bool.true_eq_false,Bool.not_true,Bool.not_false,ge_iff_le,gt_iff_lt] at *;first|done|omega|(simp only[false_iff];omega)|(simp only[true_iff];omega)|grind)
theorem U3(nl:Bool)(l:List Ld)(hnl:nl=true->l=[])(hll:l.length<=1000)(d t m:Int)(hm0 : -1000000<=m):aO Tryz.prog 130 [sL nl l,.int .i64 d,.int .i64 t,.int .i64 m] (.p (.int .i64 (AR l d t m))):=by
 have hmay:=JT nl l d t;unfold AR
 cases hM:s9 l d t with
 |false=>
  rw[hM] at hmay;refine Fn.run QC rfl ?_;generalize Tryz.prog=P at *
  (repeat'((conv=>whnf);first|exact trivial|(with_reducible first|refine zX ?_|refine zP ?_|refine zL ?_)|refine⟨rfl,?_⟩|refine⟨_,rfl,?_⟩|refine⟨fun _=>?_,fun _=>?_⟩|refine zn ?_|refine zb rfl ?_|refine zX ?_|refine zo rfl ?_|refine zs ?_|intro _));all_goals(try(conv=>whnf))
  all_goals exact cD (by simp)
 |true=>
  rw[hM] at hmay;have hw:=fun c=>DI nl l hnl hll ⟨c,d,t⟩
  simp only[eL] at hw
  have hd:1<=d/\d<=200:=by
   simp only[s9,b6,decide_eq_true_eq] at hM;omega
  obtain⟨s1,s2,s3,s4⟩:=rV l d t (min m d).toNat;rw[if_pos rfl];generalize hV:cG l d t (min m d).toNat=V at *;have hmn:(if d<m then d else m)=min m d:=by split<;>omega
  refine Fn.run QC rfl ?_;generalize Tryz.prog=P at *
  (repeat'((conv=>whnf);first|exact trivial|(with_reducible first|refine zX ?_|refine zP ?_|refine zL ?_)|refine⟨rfl,?_⟩|refine⟨_,rfl,?_⟩|refine⟨fun _=>?_,fun _=>?_⟩|refine zn ?_|refine zb rfl ?_|refine zX ?_|refine zo rfl ?_|refine zs ?_|intro _));all_goals(try(conv=>whnf))
  refine cE (fun n s=>∃lo hi:Int,n=(hi-lo).toNat/\0<=lo/\hi<=min m d/\(lo=0\/kD l lo d t=true)/\lo<=V/\(V<=hi\/(V=0/\lo=0)) /\
   s=⟨uB 40 [(0,.p (sL nl l)),(1,.p (.int .i64 d)),(2,.p (.int .i64 t)),(9,.p (.int .i64 lo)),(10,.p (.int .i64 hi))],[]⟩) (min m d).toNat ?_ ?_
  ·conv=>whnf
   refine⟨0,min m d,by omega,Int.le_refl _,Int.le_refl _,.inl rfl,s1,by omega,?_⟩
   rw[<-hmn];rfl
  ·rintro n st b N ⟨lo,hi,hn,h0,h1,h2,h3,h4,e⟩ hN
   cases e
   by_cases hlt:lo<hi
   ·have hb:decide (lo<hi)=true:=decide_eq_true hlt
    have e1:IntKind.wrap .i64 (hi-lo)=hi-lo:=bJ (by omega) (by omega)
    have e2:IntKind.wrap .i64 (hi-lo+1)=hi-lo+1:=bJ (by omega) (by omega)
    have hq:1<=(hi-lo+1)/2/\(hi-lo+1)/2<=hi-lo:=by omega
    have e3:IntKind.wrap .i64 ((hi-lo+1).tdiv 2)=(hi-lo+1)/2:=by
     rw[Int.tdiv_eq_ediv_of_nonneg (by omega)];exact bJ (by omega) (by omega)
    have e4:IntKind.wrap .i64 (lo+(hi-lo+1)/2)=lo+(hi-lo+1)/2:=bJ (by omega) (by omega)
    have hc:=hw (IntKind.wrap .i64 (lo+IntKind.wrap .i64 ((IntKind.wrap .i64 (IntKind.wrap .i64 (hi-lo)+1)).tdiv 2)));have hg:IntKind.wrap .i64 (lo+IntKind.wrap .i64 ((IntKind.wrap .i64 (IntKind.wrap .i64 (hi-lo)+1)).tdiv 2))=lo+(hi-lo+1)/2:=by rw[e1,e2,e3,e4]
    (repeat'((conv=>whnf);first|exact trivial|(with_reducible first|refine zX ?_|refine zP ?_|refine zL ?_)|refine⟨rfl,?_⟩|refine⟨_,rfl,?_⟩|refine⟨fun _=>?_,fun _=>?_⟩|refine zn ?_|refine zb rfl ?_|refine zX ?_|refine zo rfl ?_|refine zs ?_|intro _));all_goals(try(conv=>whnf))
    ·rename_i e
     rw[hg] at e ⊢
     have hcV:lo+(hi-lo+1)/2<=V:=by
      refine Int.not_lt.1 fun hlt2=>?_
      have:=s4 _ hlt2 (by omega)
      unfold kD at this;rw[e] at this;cases this
     exact hN _ _ (by omega) ⟨lo+(hi-lo+1)/2,hi,rfl,by omega,h1,.inr e,hcV,by omega,rfl⟩
    ·rename_i e
     rw[hg] at e ⊢;rw[bJ (n:=lo+(hi-lo+1)/2-1) (by omega) (by omega)]
     have hcV:V<lo+(hi-lo+1)/2:=by
      refine Int.not_le.1 fun hle=>?_
      have:=CD (s3 (by omega)) (c':=lo+(hi-lo+1)/2) (by omega) hle
      unfold kD at this;rw[e] at this;cases this
     exact hN _ _ (by omega) ⟨lo,lo+(hi-lo+1)/2-1,rfl,h0,by omega,h2,h3,by omega,rfl⟩
   ·have hb:decide (lo<hi)=false:=decide_eq_false hlt
    (repeat'((conv=>whnf);first|exact trivial|(with_reducible first|refine zX ?_|refine zP ?_|refine zL ?_)|refine⟨rfl,?_⟩|refine⟨_,rfl,?_⟩|refine⟨fun _=>?_,fun _=>?_⟩|refine zn ?_|refine zb rfl ?_|refine zX ?_|refine zo rfl ?_|refine zs ?_|intro _));all_goals(try(conv=>whnf))
    exact cD (by omega)
theorem S7(c d t:Int):eL ⟨c,d,t⟩=.agg [.int .i64 c,.int .i64 d,.int .i64 t]:=rfl
theorem IS(nl:Bool)(l:List Ld)(hnl:nl=true->l=[])(hll:l.length<=1000)(t m:Int):aO Tryz.prog 135 [sL nl l,.int .i64 t,.int .i64 m] (.p (.int .i64 (uE l t m))):=by
 have hmay:=JT nl l t t;unfold uE
 cases hM:s9 l t t with
 |false=>
  rw[hM] at hmay;refine Fn.run R8 rfl ?_;generalize Tryz.prog=P at *
  (repeat'((conv=>whnf);first|exact trivial|(with_reducible first|refine zX ?_|refine zP ?_|refine zL ?_)|refine⟨rfl,?_⟩|refine⟨_,rfl,?_⟩|refine⟨fun _=>?_,fun _=>?_⟩|refine zn ?_|refine zb rfl ?_|refine zX ?_|refine zo rfl ?_|refine zs ?_|intro _));all_goals(try(conv=>whnf))
  all_goals exact cD (by simp)
 |true=>
  have hM':=hM;simp only[s9,b6,decide_eq_true_eq] at hM';obtain⟨p1,p2,p3,p4,p5⟩:=hM';rw[hM] at hmay;have hw:=fun c d=>DI nl l hnl hll ⟨c,d,t⟩
  simp only[S7] at hw;rw[if_pos rfl];have hmn:(if t<m then t else m)=min m t:=by split<;>omega
  refine Fn.run R8 rfl ?_;generalize Tryz.prog=P at *
  (repeat'((conv=>whnf);first|exact trivial|(with_reducible first|refine zX ?_|refine zP ?_|refine zL ?_)|refine⟨rfl,?_⟩|refine⟨_,rfl,?_⟩|refine⟨fun _=>?_,fun _=>?_⟩|refine zn ?_|refine zb rfl ?_|refine zX ?_|refine zo rfl ?_|refine zs ?_|intro _));all_goals(try(conv=>whnf))
  refine cE (fun n s=>∃c:Int,n=(min m t-c).toNat/\0<=c/\c<=200/\iG l t n c=iG l t (min m t).toNat 0 /\
   s=⟨uB 31 [(0,.p (sL nl l)),(1,.p (.int .i64 t)),(2,.p (.int .i64 m)),(7,.p (.int .i64 c))],[]⟩) (min m t).toNat ?_ ?_
  ·conv=>whnf
   exact⟨0,by omega,Int.le_refl _,by omega,rfl,rfl⟩
  ·rintro n st b N ⟨c,hn,h0,h1,h2,e⟩ hN
   cases e
   have hcw:IntKind.wrap .i64 (c+1)=c+1:=bJ (by omega) (by omega)
   by_cases hlt:c<(if t<m then t else m)
   ·have hb:decide (c<(if t<m then t else m))=true:=decide_eq_true hlt
    rw[hmn] at hlt;have hc:=hw (IntKind.wrap .i64 (c+1)) (IntKind.wrap .i64 (c+1));have hn1:n=(min m t-(c+1)).toNat+1:=by omega
    rw[hn1] at h2;simp only[iG] at h2
    (repeat'((conv=>whnf);first|exact trivial|(with_reducible first|refine zX ?_|refine zP ?_|refine zL ?_)|refine⟨rfl,?_⟩|refine⟨_,rfl,?_⟩|refine⟨fun _=>?_,fun _=>?_⟩|refine zn ?_|refine zb rfl ?_|refine zX ?_|refine zo rfl ?_|refine zs ?_|intro _));all_goals(try(conv=>whnf))
    ·rename_i e
     rw[hcw] at e ⊢;unfold kD at h2;rw[if_pos e] at h2;exact hN _ _ (by omega) ⟨c+1,rfl,by omega,by omega,h2,rfl⟩
    ·rename_i e
     rw[hcw] at e;unfold kD at h2;rw[if_neg (by rw[e];decide)] at h2
     exact cD h2
   ·have hb:decide (c<(if t<m then t else m))=false:=decide_eq_false hlt
    rw[hmn] at hlt;have hn0:n=0:=by omega
    subst hn0
    (repeat'((conv=>whnf);first|exact trivial|(with_reducible first|refine zX ?_|refine zP ?_|refine zL ?_)|refine⟨rfl,?_⟩|refine⟨_,rfl,?_⟩|refine⟨fun _=>?_,fun _=>?_⟩|refine zn ?_|refine zb rfl ?_|refine zX ?_|refine zo rfl ?_|refine zs ?_|intro _));all_goals(try(conv=>whnf))
    exact cD h2
open Go.RowKit Ma
structure Cf where
 cores:Int
 syncs:Int
 lag:Int
 move:Int
 nl:Bool
 res:List Int
def eI(x:Int):PV:=.int .i64 x
def VM(syncs a:Int):Bool:=decide (a<0)||decide (a≥syncs)
def K6(c:Cf):Prop:=(1<=c.cores/\c.cores<=6)/\(0<=c.syncs/\c.syncs<=3)/\(0<=c.lag/\c.lag<=5)/\(0<=c.move/\c.move<=5)
instance (c:Cf):Decidable (K6 c):=inferInstanceAs (Decidable (_/\_))
def Cf.ok(c:Cf):Bool:=decide (K6 c)&&(decide (c.res.length<=6) && !c.res.any (VM c.syncs))
def JO(nres C:Int):Int->List Sec->Bool
 |_,[]=>true
 |last,s ::ss=>decide (0<=s.res)&&(decide (s.res<nres)&&(decide (1<=s.len)&&(decide (s.len<=200)&&(decide (last<s.at_)&&(decide (s.at_<C)&&JO nres C s.at_ ss)))))
def K5(t:Tk):Prop:=1<=t.C/\t.C<=t.D/\t.D<=t.T/\t.T<=200/\t.secs.length<=2
instance (t:Tk):Decidable (K5 t):=inferInstanceAs (Decidable (_/\_))
def Tk.ok(nres:Int)(t:Tk):Bool:=decide (K5 t)&&JO nres t.C 0 t.secs
open Go.RowKit Ma
section
variable {P:Program}
theorem OW{t:TypeId}{k:IntKind}(hu:P.underlying t=some (.int k)){n:Nat}{cs:List PV}(h:RdT P n t cs):∃m,cs=[.int k m]:=by
 cases n with
 |zero=>exact h.elim
 |succ n=>unfold RdT at h;simpa only [hu] using h
theorem IZ{α:Type}{f : α->PV}{rows:List PV}(h:∀row,row∈rows->∃x,row=f x):∃l:List α,rows=l.map f:=by
 induction rows with
 |nil=>exact⟨[],rfl⟩
 |cons r rs ih=>
  obtain⟨x,hx⟩:=h r (by simp)
  obtain⟨l,hl⟩:=ih fun row hr=>h row (by simp[hr])
  exact⟨x ::l,by rw[hx,hl];rfl⟩
theorem EI{t e:TypeId}(hu:P.underlying t=some (.slice e)){n:Nat}{cs:List PV}(h:RdT P n t cs){α:Type}{f : α->PV}(hf:∀n' rcs,RdT P n' e rcs->∃x,fN (xN P e) rcs=f x) :
  ∃nl,∃l:List α,cs=[.sl (P.cellsOf e) nl (l.map f)]/\(nl=true->l=[]):=by
 cases n with
 |zero=>exact h.elim
 |succ n=>
  unfold RdT at h;simp only[hu] at h;obtain⟨nl,rows,h1,h2,h3⟩:=h
  obtain⟨l,rfl⟩:=IZ (f:=f) (rows:=rows) fun row hr=>by
   obtain⟨rcs,hr1,hr2⟩:=h3 row hr;obtain⟨x,hx⟩:=hf n rcs hr1;exact⟨x,hr2.trans hx⟩
  exact⟨nl,l,h1,fun hn=>by simpa using h2 hn⟩
end
theorem u2:Tryz.prog.underlying 2=some (.int .i64):=by kernel_rfl
theorem u4:Tryz.prog.underlying 4=some .bool:=by kernel_rfl
theorem s3:xN Tryz.prog 3=false:=by kernel_rfl
theorem c3:Tryz.prog.cellsOf 3=1:=by kernel_rfl
open Go.RowKit Go.ChangeShapes Go.WideShapes Go.ChangeAt Ma
def oB:List (String×DataW Unit):=[("math/bits.deBruijn32tab", Rows.laid_math_bits_deBruijn32tab),("math/bits.deBruijn64tab", Rows.laid_math_bits_deBruijn64tab),("internal/strconv.uint64pow10", Rows.laid_internal_strconv_uint64pow10),
 ("unicode/utf8.acceptRanges", Rows.laid_unicode_utf8_acceptRanges),("strconv.ErrRange", Rows.laid_strconv_ErrRange),("strconv.ErrSyntax", Rows.laid_strconv_ErrSyntax),("unicode/utf8.first", Rows.laid_unicode_utf8_first)]
theorem yY:∀w:World,laidMetH Tryz.prog oB w=laidMet Tryz.prog oB w:=fun w=>MakeChecks.laidMetH_plain _ _ _ (by kernel_rfl)
theorem GQ(os:Os)(args:Array Value):laidMetH Tryz.prog oB ((World.laidAll Tryz.prog os oB).forCall (fun _ _=>0) ⟨#[],args,[]⟩).memory:=by
 rw[yY];exact laidMet_laidAll _ (by kernel_rfl) (by kernel_rfl)
theorem LU{a b:Bool}(h:a=true)(k:b=true):(a&&b)=true:=by rw[h,k];rfl
abbrev mainSum:String := "aada39efcd2bae9a899bb5c456762e7237047e2d7d47480e4901f2fc647950d7"
theorem HQ:Tryz.prog.mainIs=some (true,mainSum.toList):=by kernel_rfl
theorem N4:true=Tryz.prog.looks []:=by kernel_rfl
theorem VO:ownKnob Tryz.prog.godebug=none:=by kernel_rfl
theorem SC:laidOutB Tryz.prog=true:=by kernel_rfl
theorem s2:xN Tryz.prog 2=false:=by kernel_rfl
theorem s4:xN Tryz.prog 4=false:=by kernel_rfl
section
variable {H:Type} {enc:TypeId×Value->H} {P:Program} {w:World} {base:Nat} {spare:Nat->Bool} {held:Bool}
theorem RZ{t:TypeId}{ts:List TypeId}{vs:List Value}{ds:List (DataW H)}{ps:List MemPlace}(h:DataW.TrodAll enc P w base spare held (t ::ts) vs ds ps) :
  ∃v vs' d ds' p q,vs=v ::vs'/\ds=d ::ds'/\ps=p++q/\DataW.Trod enc P w base spare held t v d p/\DataW.TrodAll enc P w base spare held ts vs' ds' q:=by
 cases vs with
 |nil=>exact h.elim
 |cons v vs'=>cases ds with
  |nil=>exact h.elim
  |cons d ds'=>
   obtain⟨p,q,h1,h2,h3⟩:=h;exact⟨v,vs',d,ds',p,q,rfl,rfl,h3,h1,h2⟩
theorem S8{vs:List Value}{ds:List (DataW H)}{ps:List MemPlace}(h:DataW.TrodAll enc P w base spare held [] vs ds ps):vs=[]/\ds=[]/\ps=[]:=by
 cases vs with
 |nil=>cases ds with
  |nil=>exact⟨rfl,rfl,h⟩
  |cons d ds'=>exact h.elim
 |cons v vs'=>exact h.elim
end
theorem SR{H:Type}{enc:TypeId×Value->H}{w:World}{base:Nat}{sp:Nat->Bool}{hd:Bool}(b:Bool):DataW.Trod enc Tryz.prog w base sp hd 4 (.bool b) (.lit (.bool b)) []:=⟨1,by simp[DataW.trod,Value.cells,u4]⟩
theorem xX{P:Program}{f:FuncId}{args:List PV}{r:DV}(h:aO P f args r)(hf:x6 P f)(M0:Nat->Nat->Prop)(w:World)(cargs:Array Value)(hs:cargs.size=args.length)
  (ha:∀(j:Nat) x v,args[j]?=some x->cargs[j]?=some v->Flat M0 w x v) :
  Calls P f cargs w fun e w'=>∃v X,e=.returned v/\X.w=w'/\VRel X w.heap.size (.tmp 0) r v/\(∀b,b<w.heap.size->∀o,X.M b o↔M0 b o)/\Below w.heap.size w w':=by
 rcases h.2 M0 w cargs hs ha with ⟨_,hc⟩|⟨v,X,hr,_⟩
 ·exact hc
 ·exfalso
  obtain⟨fn,h1,h2,h3⟩:=hf;have h4:fn.body≠none:=fun hb=>by rw[hb] at h2;cases h2
  simp[callFunc,h1,h3,h4] at hr
open Go.RowKit Ma
open Go.RowKit Ma
open Go.RowKit
def Y2:Fn:=⟨21,3,[.cell 6 9],
 (.sr [ii 3 (.box 0 2) [.t 0],
 ⟨some 6,none,.alloc 1 9 [Z0,Z0,Z0,Z0,Z0,Z0,Z0,Z0,Z0],[]⟩]
 (.seq
 (.gp (.reg [mv 8 1,
 mv 9 2,
 ⟨some 10,none,.build [.int .i64 0,.int .i64 0,.int .i64 0,.int .i64 0,.int .i64 0,.int .i64 0,.int .i64 0,.int .i64 0,.int .i64 0] [(0,1),(1,1),(2,1)],[cI 2,.t 8,.t 9]⟩,
 ⟨some 7,none,.alloc 2 9 [Z0,Z0,Z0,Z0,Z0,Z0,Z0,Z0,Z0],[]⟩,
 ⟨none,none,.store 9,[.t 7,.t 10]⟩]) (.lay 2 9))
 (.seq
 (.sr [ii 11 (.load 2 true false) [.t 3],
 ii 12 (.load 9 true false) [.t 7],
 ii 13 (.call 53) [.t 11,.t 12]]
 (.cond (.t 13)
 (.gp (.reg [fa 14 1 3,
 ld 15 14,
 ii 16 (.iad 4) [.t 15,cI 0],
 fa 17 3 16,
 ld 18 17,
 fa 19 5 7,
 ⟨none,none,.store 1,[.t 19,.t 18]⟩]) (.lay 2 9))
 .skip))
 (.seq
 (.gp (.reg [ii 20 (.load 9 true false) [.t 7],
 ⟨none,none,.store 9,[.t 6,.t 20]⟩]) (.lay 1 9))
 .ret))))⟩
theorem k19:aI Tryz.prog 19 Y2=true:=by kernel_rfl
def YR:Fn:=⟨121,5,[.cell 10 9,.tmp 11],
 (.sr [ii 5 (.box 0 5) [.t 0],
 ii 6 (.box 1 4) [.t 1],
 ii 7 (.box 2 2) [.t 2],
 ii 8 (.box 3 9) [.t 3],
 ⟨some 10,none,.alloc 4 9 [Z0,Z0,Z0,Z0,Z0,Z0,Z0,Z0,Z0],[]⟩,
 mc 11 (.int .i64 0)]
 (.seq
 (.sr [fa 13 0 8,
 ld 14 13,
 b1 15 .neq 14 (.int .i64 2),
 mv 16 15,
 gf 17 16 (.load 2 true false) [.t 7],
 gf 18 16 (.load 9 true false) [.t 8],
 gf 19 16 (.call 53) [.t 17,.t 18],
 gf 20 16 (.un .not) [.t 19],
 ii 21 .pick [.t 16,.c (.p (.bool true)),.t 20]]
 (.cond (.t 21)
 (.seq
 (.gp (.reg [ii 22 (.load 9 true false) [.t 8],
 ⟨none,none,.store 9,[.t 10,.t 22]⟩,
 mc 11 (.int .i64 0)]) (.lay 4 9))
 .ret)
 .skip))
 (.seq
 (.gp (.reg [fa 23 5 8,
 ld 24 23,
 b1 25 .sub 24 (.int .i64 1),
 fa 26 5 8,
 ⟨none,none,.store 1,[.t 26,.t 25]⟩]) (.lay 3 9))
 (.sr [fa 27 6 8,
 ld 28 27,
 b1 29 .leq 28 (.int .i64 0),
 mt 12 29]
 (.seq
 (.sr [mv 30 12]
 (.cond (.t 30)
 (.gp (.reg [fa 31 3 8,
 ld 32 31,
 b1 33 .add 32 (.int .i64 1),
 fa 34 3 8,
 ⟨none,none,.store 1,[.t 34,.t 33]⟩]) (.lay 3 9))
 (.gp (.reg [fa 35 6 8,
 ld 36 35,
 b1 37 .sub 36 (.int .i64 1),
 fa 38 6 8,
 ⟨none,none,.store 1,[.t 38,.t 37]⟩]) (.lay 3 9))))
 (.seq
 (.block 0
 (.sr [mv 40 12,
 mv 41 40,
 gt 42 41 (.fad 3) [.t 8],
 gt 43 41 (.load 1 false false) [.t 42],
 gt 44 41 (.fad 2) [.t 8],
 gt 45 41 (.load 1 false false) [.t 44],
 gt 46 41 (.bin .eql) [.t 43,.t 45],
 ii 47 .pick [.t 41,.t 46,.c (.p (.bool false))],
 mt 39 47]
 (.cond (.t 39)
 (.seq
 (.gp (.reg [mv 48 4,
 b1 49 .add 48 (.int .i64 1),
 fa 50 0 8,
 ⟨none,none,.store 1,[.t 50,cI 4]⟩,
 fa 51 8 8,
 ⟨none,none,.store 1,[.t 51,.t 49]⟩]) (.lay 3 9))
 (.seq
 (.gp (.reg [ii 52 (.load 9 true false) [.t 8],
 ⟨none,none,.store 9,[.t 10,.t 52]⟩,
 mc 11 (.int .i64 2)]) (.lay 4 9))
 .ret))
 (.seq
 (.regd [mv 54 12,
 mv 55 54,
 gt 56 55 (.fad 7) [.t 8],
 gt 57 55 (.at 3 (.load 1 false false)) [.t 56],
 gt 58 55 (.bin .geq) [.t 57,cI 0],
 ii 59 .pick [.t 55,.t 58,.c (.p (.bool false))],
 mv 60 59,
 gt 61 60 (.fad 7) [.t 8],
 gt 62 60 (.at 3 (.load 1 false false)) [.t 61],
 gt 63 60 (.fad 3) [.t 6],
 gt 64 60 (.at 1 (.load 1 false false)) [.t 63],
 gt 65 60 .lenD [.t 64],
 gt 66 60 (.bin .lss) [.t 62,.t 65],
 ii 67 .pick [.t 60,.t 66,.c (.p (.bool false))],
 mv 68 67,
 gt 69 68 (.fad 3) [.t 6],
 gt 70 68 (.at 1 (.load 1 false false)) [.t 69],
 gt 71 68 (.fad 7) [.t 8],
 gt 72 68 (.at 3 (.load 1 false false)) [.t 71],
 gt 73 68 (.iad 3) [.t 70,.t 72],
 gt 74 68 (.fad 1) [.t 73],
 gt 75 68 (.loadp 1 false) [.t 74],
 gt 76 68 (.fad 3) [.t 8],
 gt 77 68 (.at 3 (.load 1 false false)) [.t 76],
 gt 78 68 (.bin .eql) [.t 75,.t 77],
 ii 79 .pick [.t 68,.t 78,.c (.p (.bool false))],
 mt 53 79])
 (.cond (.t 53)
 (.seq
 (.gp (.reg [fa 80 0 8,
 ⟨none,none,.store 1,[.t 80,cI 3]⟩]) (.lay 3 9))
 (.seq
 (.gp (.reg [fa 81 7 8,
 ld 82 81,
 b1 83 .add 82 (.int .i64 1),
 fa 84 7 8,
 ⟨none,none,.store 1,[.t 84,.t 83]⟩]) (.lay 3 9))
 (.seq
 (.gp (.reg [ii 85 (.load 9 true false) [.t 8],
 ⟨none,none,.store 9,[.t 10,.t 85]⟩,
 mc 11 (.int .i64 3)]) (.lay 4 9))
 .ret)))
 (.sr [fa 87 5 8,
 ld 88 87,
 b1 89 .neq 88 (.int .i64 0),
 mt 86 89]
 (.cond (.t 86)
 (.seq
 (.gp (.reg [ii 90 (.load 9 true false) [.t 8],
 ⟨none,none,.store 9,[.t 10,.t 90]⟩,
 mc 11 (.int .i64 1)]) (.lay 4 9))
 .ret)
 (.sr [fa 92 4 8,
 ld 93 92,
 fa 94 1 7,
 ld 95 94,
 ii 96 .len [.t 95],
 b1 97 .sub 96 (.int .i64 1),
 b2 98 .eql 93 97,
 mt 91 98]
 (.cond (.t 91)
 (.seq
 (.gp (.reg [mv 99 4,
 b1 100 .add 99 (.int .i64 1),
 fa 101 0 8,
 ⟨none,none,.store 1,[.t 101,cI 5]⟩,
 fa 102 8 8,
 ⟨none,none,.store 1,[.t 102,.t 100]⟩]) (.lay 3 9))
 (.seq
 (.gp (.reg [ii 103 (.load 9 true false) [.t 8],
 ⟨none,none,.store 9,[.t 10,.t 103]⟩,
 mc 11 (.int .i64 5)]) (.lay 4 9))
 .ret))
 .skip)))))))))
 (.seq
 (.gp (.reg [fa 104 4 8,
 ld 105 104,
 b1 106 .add 105 (.int .i64 1),
 fa 107 4 8,
 ⟨none,none,.store 1,[.t 107,.t 106]⟩]) (.lay 3 9))
 (.seq
 (.gp (.regd [fa 108 1 7,
 ii 109 (.at 2 (.load 1 false false)) [.t 108],
 fa 110 4 8,
 ii 111 (.at 3 (.load 1 false false)) [.t 110],
 ii 112 (.iad 4) [.t 109,.t 111],
 fa 113 3 112,
 ii 114 (.loadp 1 false) [.t 113],
 fa 115 3 5,
 ii 116 (.at 0 (.load 1 false false)) [.t 115],
 fa 117 0 8,
 ⟨none,none,.at 3 (.store 1),[.t 117,cI 1]⟩,
 fa 118 5 8,
 ⟨none,none,.at 3 (.store 1),[.t 118,.t 114]⟩,
 fa 119 6 8,
 ⟨none,none,.at 3 (.store 1),[.t 119,.t 116]⟩]) (.lay 3 9))
 (.seq
 (.gp (.reg [ii 120 (.load 9 true false) [.t 8],
 ⟨none,none,.store 9,[.t 10,.t 120]⟩,
 mc 11 (.int .i64 4)]) (.lay 4 9))
 .ret)))))))))⟩
theorem k20:aI Tryz.prog 20 YR=true:=by kernel_rfl
def Z3:Fn:=⟨16,1,[.tmp 2],
 (.sr [ii 1 (.box 0 9) [.t 0],
 mc 2 (.bool false)]
 (.sr [fa 3 0 1,
 ld 4 3,
 b1 5 .eql 4 (.int .i64 1),
 mv 6 5,
 gf 7 6 (.fad 0) [.t 1],
 gf 8 6 (.load 1 false false) [.t 7],
 gf 9 6 (.bin .eql) [.t 8,cI 2],
 ii 10 .pick [.t 6,.c (.p (.bool true)),.t 9],
 mv 11 10,
 gf 12 11 (.fad 0) [.t 1],
 gf 13 11 (.load 1 false false) [.t 12],
 gf 14 11 (.bin .eql) [.t 13,cI 3],
 ii 15 .pick [.t 11,.c (.p (.bool true)),.t 14],
 mt 2 15]
 .ret))⟩
theorem k22:aI Tryz.prog 22 Z3=true:=by kernel_rfl
def ZB:Fn:=⟨19,2,[.tmp 4],
 (.sr [ii 2 (.box 0 2) [.t 0],
 ii 3 (.box 1 9) [.t 1],
 mc 4 (.int .i64 0)]
 (.seq
 (.sr [ii 5 (.load 2 true false) [.t 2],
 ii 6 (.load 9 true false) [.t 3],
 ii 7 (.call 53) [.t 5,.t 6],
 ii 8 (.un .not) [.t 7]]
 (.cond (.t 8)
 (.sr [mc 4 (.int .i64 0)]
 .ret)
 .skip))
 (.seq
 (.regd [fa 9 1 3,
 ii 10 (.at 1 (.load 1 false false)) [.t 9],
 fa 11 1 2,
 ii 12 (.at 0 (.load 1 false false)) [.t 11],
 fa 13 4 3,
 ii 14 (.at 1 (.load 1 false false)) [.t 13],
 ii 15 (.iad 4) [.t 12,.t 14],
 fa 16 1 15,
 ii 17 (.loadp 1 false) [.t 16],
 b2 18 .add 10 17,
 mt 4 18])
 .ret)))⟩
theorem k24:aI Tryz.prog 24 ZB=true:=by kernel_rfl
def ZJ:Fn:=⟨11,2,[.tmp 4],
 (.sr [ii 2 (.box 0 2) [.t 0],
 ii 3 (.box 1 9) [.t 1],
 mc 4 (.int .i64 0)]
 (.sr [ii 5 (.load 2 true false) [.t 2],
 fa 6 4 3,
 ld 7 6,
 fa 8 1 3,
 ld 9 8,
 ii 10 (.call 26) [.t 5,.t 7,.t 9],
 mt 4 10]
 .ret))⟩
theorem k25:aI Tryz.prog 25 ZJ=true:=by kernel_rfl
def YT:Fn:=⟨16,2,[.tmp 4],
 (.sr [ii 2 (.box 0 2) [.t 0],
 ii 3 (.box 1 9) [.t 1],
 mc 4 (.bool false)]
 (.sr [fa 5 4 3,
 ld 6 5,
 b1 7 .geq 6 (.int .i64 0),
 mv 8 7,
 gt 9 8 (.fad 4) [.t 3],
 gt 10 8 (.load 1 false false) [.t 9],
 gt 11 8 (.fad 1) [.t 2],
 gt 12 8 (.load 1 false false) [.t 11],
 gt 13 8 .len [.t 12],
 gt 14 8 (.bin .lss) [.t 10,.t 13],
 ii 15 .pick [.t 8,.t 14,.c (.p (.bool false))],
 mt 4 15]
 .ret))⟩
theorem k53:aI Tryz.prog 53 YT=true:=by kernel_rfl
def Y3:Fn:=⟨2,0,[.tmp 0],
 (.sr [mc 0 (.bool false)]
 (.sr [ii 1 (.call 76) [],
 mt 0 1]
 .ret))⟩
theorem ZW:aI Tryz.prog 44 Y3=true:=by kernel_rfl
def ZZ:Fn:=⟨182,0,[.tmp 0],
 (.sr [mc 0 (.bool false)]
 (.sr [ii 24 (.ob (.callo 109 true)) [cI 2],
 mt 1 24]
 (.sr [ii 25 (.ob (.callo 110 true)) [cI 2],
 mt 2 25]
 (.sr [ii 26 (.ob (.callo 111 true)) [cI 3],
 mt 3 26]
 (.sr [ii 27 (.ob (.callo 112 true)) [cI 1],
 mt 4 27]
 (.sr [ii 28 (.ob (.callo 60 true)) [cI 3],
 mt 5 28]
 (.seq
 (.sr [mv 29 1,
 ii 30 (.ob (.eqp false)) [.t 29,.c (.p (.atom (.pointer none)))],
 mv 31 30,
 gf 32 31 (.mov false) [.t 2],
 gf 33 31 (.ob (.eqp false)) [.t 32,.c (.p (.atom (.pointer none)))],
 ii 34 .pick [.t 31,.c (.p (.bool true)),.t 33],
 mv 35 34,
 gf 36 35 (.mov false) [.t 3],
 gf 37 35 (.ob (.eqp false)) [.t 36,.c (.p (.atom (.pointer none)))],
 ii 38 .pick [.t 35,.c (.p (.bool true)),.t 37],
 mv 39 38,
 gf 40 39 (.mov false) [.t 4],
 gf 41 39 (.ob (.eqp false)) [.t 40,.c (.p (.atom (.pointer none)))],
 ii 42 .pick [.t 39,.c (.p (.bool true)),.t 41],
 mv 43 42,
 gf 44 43 (.mov false) [.t 5],
 gf 45 43 (.ob (.eqp false)) [.t 44,.c (.p (.atom (.pointer none)))],
 ii 46 .pick [.t 43,.c (.p (.bool true)),.t 45]]
 (.cond (.t 46)
 (.sr [mc 0 (.bool false)]
 .ret)
 .skip))
 (.sr [mv 47 1,
 ⟨some 48,none,.ob (.callo 113 true),[.t 47,.c (.p (.str ⟨#[120]⟩)),cI 5,cI 1]⟩,
 mv 49 1,
 ⟨some 50,none,.ob (.callo 113 true),[.t 49,.c (.p (.str ⟨#[121]⟩)),cI 3,cI 9]⟩,
 mv 51 1,
 ⟨some 52,none,.ob (.callo 113 true),[.t 51,.c (.p (.str ⟨#[122]⟩)),cI 1,cI 1]⟩,
 mt 6 48,
 mt 7 50,
 mt 8 52]
 (.sr [mv 54 1,
 ii 55 (.ob (.callo 114 false)) [.t 54],
 mv 53 55,
 ii 56 (.ext 0) [.t 53],
 ii 57 (.ext 1) [.t 53],
 mt 9 56,
 mt 10 57]
 (.sr [mv 58 2,
 ii 59 (.ob (.callo 115 false)) [.t 58,cI 4],
 mv 60 2,
 ii 61 (.ob (.callo 115 false)) [.t 60,cI 5],
 mt 11 59,
 mt 12 61]
 (.sr [mv 63 2,
 ii 64 (.ob (.callo 116 false)) [.t 63],
 mv 62 64,
 ii 65 (.ext 0) [.t 62],
 ii 66 (.ext 1) [.t 62],
 mt 13 65,
 mt 14 66]
 (.sr [mv 67 3,
 ⟨some 68,none,.ob (.callo 117 false),[.t 67,.c (.p (.str ⟨#[97]⟩))]⟩,
 mv 69 3,
 ⟨some 70,none,.ob (.callo 117 false),[.t 69,.c (.p (.str ⟨#[98]⟩))]⟩,
 mt 15 68,
 mt 16 70]
 (.sr [mv 71 3,
 ii 72 (.ob (.callo 118 false)) [.t 71,cI 1]]
 (.sr [mv 73 4,
 ii 74 (.ob (.callo 119 false)) [.t 73,cI 7],
 mv 75 4,
 ii 76 (.ob (.callo 119 false)) [.t 75,cI 8],
 mt 17 74,
 mt 18 76]
 (.sr [ii 78 (.ob (.callo 112 true)) [cI 1],
 mv 79 4,
 ii 80 (.ob (.callo 120 false)) [.t 78,.t 79],
 mv 77 80,
 ii 81 (.ext 0) [.t 77],
 ii 82 (.ext 1) [.t 77],
 mt 19 81,
 mt 20 82]
 (.sr [mv 83 5,
 ii 84 (.ob (.callo 91 true)) [.t 83,cI 9,cI 4],
 mt 21 84]
 (.sr [mv 85 5,
 ii 86 (.ob (.callo 63 false)) [.t 85,cI 4],
 mv 87 5,
 ii 88 (.ob (.callo 63 false)) [.t 87,cI 9],
 mt 22 86,
 mt 23 88]
 (.sr [ii 89 (.call 121) [],
 mv 90 89,
 gt 91 90 (.mov false) [.t 6],
 ii 92 .pick [.t 90,.t 91,.c (.p (.bool false))],
 mv 93 92,
 gt 94 93 (.mov false) [.t 7],
 ii 95 .pick [.t 93,.t 94,.c (.p (.bool false))],
 mv 96 95,
 gt 97 96 (.mov false) [.t 8],
 gt 98 96 (.un .not) [.t 97],
 ii 99 .pick [.t 96,.t 98,.c (.p (.bool false))],
 mv 100 99,
 gt 101 100 (.mov false) [.t 10],
 ii 102 .pick [.t 100,.t 101,.c (.p (.bool false))],
 mv 103 102,
 gt 104 103 (.mov false) [.t 9],
 ⟨some 105,(some (103,true)),.bin .eql,[.t 104,.c (.p (.str ⟨#[121]⟩))]⟩,
 ii 106 .pick [.t 103,.t 105,.c (.p (.bool false))],
 mv 107 106,
 gt 108 107 (.mov false) [.t 11],
 ii 109 .pick [.t 107,.t 108,.c (.p (.bool false))],
 mv 110 109,
 gt 111 110 (.mov false) [.t 12],
 ii 112 .pick [.t 110,.t 111,.c (.p (.bool false))],
 mv 113 112,
 gt 114 113 (.mov false) [.t 14],
 ii 115 .pick [.t 113,.t 114,.c (.p (.bool false))],
 mv 116 115,
 gt 117 116 (.mov false) [.t 13],
 gt 118 116 (.bin .eql) [.t 117,cI 4],
 ii 119 .pick [.t 116,.t 118,.c (.p (.bool false))],
 mv 120 119,
 gt 121 120 (.mov false) [.t 15],
 gt 122 120 (.bin .eql) [.t 121,cI 1],
 ii 123 .pick [.t 120,.t 122,.c (.p (.bool false))],
 mv 124 123,
 gt 125 124 (.mov false) [.t 16],
 gt 126 124 (.bin .eql) [.t 125,cI 2],
 ii 127 .pick [.t 124,.t 126,.c (.p (.bool false))],
 mv 128 127,
 gt 129 128 (.mov false) [.t 3],
 ⟨some 130,(some (128,true)),.ob (.callo 117 false),[.t 129,.c (.p (.str ⟨#[99]⟩))]⟩,
 gt 131 128 (.bin .eql) [.t 130,cI 1],
 ii 132 .pick [.t 128,.t 131,.c (.p (.bool false))],
 mv 133 132,
 gt 134 133 (.mov false) [.t 17],
 ii 135 .pick [.t 133,.t 134,.c (.p (.bool false))],
 mv 136 135,
 gt 137 136 (.mov false) [.t 18],
 gt 138 136 (.un .not) [.t 137],
 ii 139 .pick [.t 136,.t 138,.c (.p (.bool false))],
 mv 140 139,
 gt 141 140 (.mov false) [.t 19],
 gt 142 140 (.bin .eql) [.t 141,cI 7],
 ii 143 .pick [.t 140,.t 142,.c (.p (.bool false))],
 mv 144 143,
 gt 145 144 (.mov false) [.t 20],
 gt 146 144 (.bin .eql) [.t 145,cI 2],
 ii 147 .pick [.t 144,.t 146,.c (.p (.bool false))],
 mv 148 147,
 gt 149 148 (.mov false) [.t 21],
 ii 150 .pick [.t 148,.t 149,.c (.p (.bool false))],
 mv 151 150,
 gt 152 151 (.mov false) [.t 22],
 gt 153 151 .len [.t 152],
 gt 154 151 (.bin .eql) [.t 153,cI 1],
 ii 155 .pick [.t 151,.t 154,.c (.p (.bool false))],
 mv 156 155,
 gt 157 156 (.mov false) [.t 22],
 gt 158 156 (.iad 1) [.t 157,cI 0],
 gt 159 156 (.load 1 false false) [.t 158],
 gt 160 156 (.bin .eql) [.t 159,cI 9],
 ii 161 .pick [.t 156,.t 160,.c (.p (.bool false))],
 mv 162 161,
 gt 163 162 (.mov false) [.t 23],
 gt 164 162 .len [.t 163],
 gt 165 162 (.bin .eql) [.t 164,cI 0],
 ii 166 .pick [.t 162,.t 165,.c (.p (.bool false))],
 mv 167 166,
 gt 168 167 (.mov false) [.t 1],
 gt 169 167 (.ob (.callo 122 false)) [.t 168],
 gt 170 167 (.bin .eql) [.t 169,cI 2],
 ii 171 .pick [.t 167,.t 170,.c (.p (.bool false))],
 mv 172 171,
 gt 173 172 (.mov false) [.t 2],
 gt 174 172 (.ob (.callo 123 false)) [.t 173],
 gt 175 172 (.bin .eql) [.t 174,cI 1],
 ii 176 .pick [.t 172,.t 175,.c (.p (.bool false))],
 mv 177 176,
 gt 178 177 (.mov false) [.t 4],
 gt 179 177 (.ob (.callo 124 false)) [.t 178],
 gt 180 177 (.bin .eql) [.t 179,cI 0],
 ii 181 .pick [.t 177,.t 180,.c (.p (.bool false))],
 mt 0 181]
 .ret))))))))))))))))))⟩
theorem k76:aI Tryz.prog 76 ZZ=true:=by kernel_rfl
def Y8:Fn:=⟨150,4,[.tmp 0],
 (.sr [mc 0 (.bool false)]
 (.seq
 (.gp (.reg [⟨some 15,none,.build [.int .i64 0,.int .i64 0,.int .i64 0,.int .i64 0] [(2,1),(3,1)],[cI 5,cI 2]⟩,
 ii 16 (.bsl 4 1) [.t 15],
 ⟨some 17,none,.build [.int .i64 0,.sl 4 true []] [(0,1),(1,1)],[cI 1,.t 16]⟩,
 ⟨some 1,none,.alloc 0 2 [Z0,.ow 4 true []],[]⟩,
 ⟨none,none,.store 2,[.t 1,.t 17]⟩]) (.lay 0 2))
 (.seq
 (.gp (.reg [ii 18 (.load 2 true false) [.t 1],
 ii 19 (.call 19) [.t 18,cI 3,cI 2],
 ⟨some 2,none,.alloc 1 9 [Z0,Z0,Z0,Z0,Z0,Z0,Z0,Z0,Z0],[]⟩,
 ⟨none,none,.store 9,[.t 2,.t 19]⟩]) (.lay 1 9))
 (.seq
 (.gp (.reg [⟨some 21,none,.build [.int .i64 0,.int .i64 0,.int .i64 0,.int .i64 0,.sl 1 true []] [(0,1)],[cI 1]⟩,
 ⟨some 22,none,.build [.int .i64 0,.int .i64 0,.int .i64 0,.sl 3 true []] [(0,1),(1,1),(2,1)],[cI 2,cI 5,cI 5]⟩,
 ii 23 (.load 2 true false) [.t 1],
 ii 24 (.load 9 true false) [.t 2],
 ii 25 (.call 20) [.t 21,.t 22,.t 23,.t 24,cI 7],
 mv 20 25,
 ii 26 (.ext 0) [.t 20],
 ii 27 (.ext 1) [.t 20],
 ⟨some 3,none,.alloc 2 9 [Z0,Z0,Z0,Z0,Z0,Z0,Z0,Z0,Z0],[]⟩,
 ⟨none,none,.store 9,[.t 3,.t 26]⟩,
 mt 4 27]) (.lay 2 9))
 (.seq
 (.gp (.reg [⟨some 29,none,.build [.int .i64 0,.int .i64 0,.int .i64 0,.int .i64 0,.sl 1 true []] [(0,1)],[cI 1]⟩,
 ⟨some 30,none,.build [.int .i64 0,.int .i64 0,.int .i64 0,.sl 3 true []] [(0,1),(1,1),(2,1)],[cI 2,cI 5,cI 5]⟩,
 ii 31 (.load 2 true false) [.t 1],
 ii 32 (.load 9 true false) [.t 3],
 ii 33 (.call 20) [.t 29,.t 30,.t 31,.t 32,cI 8],
 mv 28 33,
 ii 34 (.ext 0) [.t 28],
 ii 35 (.ext 1) [.t 28],
 ⟨some 5,none,.alloc 3 9 [Z0,Z0,Z0,Z0,Z0,Z0,Z0,Z0,Z0],[]⟩,
 ⟨none,none,.store 9,[.t 5,.t 34]⟩,
 mt 6 35]) (.lay 3 9))
 (.sr [ii 36 (.ob (.callo 27 true)) [],
 ii 37 (.ob (.callo 36 true)) [],
 ii 38 (.ob (.callo 32 true)) [],
 mt 7 36,
 mt 8 37,
 mt 9 38]
 (.seq
 (.sr [mv 39 7,
 ii 40 (.ob (.eqp false)) [.t 39,.c (.p (.atom (.pointer none)))],
 mv 41 40,
 gf 42 41 (.mov false) [.t 8],
 gf 43 41 (.ob (.eqp false)) [.t 42,.c (.p (.atom (.pointer none)))],
 ii 44 .pick [.t 41,.c (.p (.bool true)),.t 43],
 mv 45 44,
 gf 46 45 (.mov false) [.t 9],
 gf 47 45 (.ob (.eqp false)) [.t 46,.c (.p (.atom (.pointer none)))],
 ii 48 .pick [.t 45,.c (.p (.bool true)),.t 47]]
 (.cond (.t 48)
 (.sr [mc 0 (.bool false)]
 .ret)
 .skip))
 (.sr [mv 49 7,
 ii 50 (.ob (.callo 28 true)) [.t 49,cI 2,cI 9]]
 (.sr [mv 51 7,
 ii 52 (.ob (.callo 28 true)) [.t 51,cI 1,cI 9]]
 (.sr [mv 53 8,
 ii 54 (.ob (.callo 37 false)) [.t 53,cI 4,cI 1],
 mt 10 54]
 (.sr [mv 56 8,
 ii 57 (.ob (.callo 38 false)) [.t 56],
 mv 55 57,
 ii 58 (.ext 0) [.t 55],
 ii 59 (.ext 1) [.t 55],
 mt 11 58,
 mt 12 59]
 (.sr [mv 60 9,
 ⟨some 61,none,.build [.int .i64 0,.int .i64 0,.int .i64 0,.int .i64 0,.int .i64 0] [(0,1),(1,1),(3,1)],[cI 2,cI 2,cI 5]⟩,
 ii 62 (.ob (.callo 33 true)) [.t 60,.t 61],
 mt 13 62]
 (.sr [mv 63 9,
 ii 64 (.ob (.callo 34 true)) [.t 63,cI 5],
 mt 14 64]
 (.sr [ii 65 (.call 43) [],
 mv 66 65,
 gt 67 66 (.call 44) [],
 ii 68 .pick [.t 66,.t 67,.c (.p (.bool false))],
 mv 69 68,
 gt 70 69 (.fad 0) [.t 2],
 gt 71 69 (.load 1 false false) [.t 70],
 gt 72 69 (.bin .eql) [.t 71,cI 2],
 ii 73 .pick [.t 69,.t 72,.c (.p (.bool false))],
 mv 74 73,
 gt 75 74 (.load 9 true false) [.t 2],
 gt 76 74 (.call 22) [.t 75],
 ii 77 .pick [.t 74,.t 76,.c (.p (.bool false))],
 mv 78 77,
 gt 79 78 (.load 2 true false) [.t 1],
 gt 80 78 (.load 9 true false) [.t 2],
 gt 81 78 (.call 25) [.t 79,.t 80],
 gt 82 78 (.bin .eql) [.t 81,cI 8],
 ii 83 .pick [.t 78,.t 82,.c (.p (.bool false))],
 mv 84 83,
 gt 85 84 (.load 2 true false) [.t 1],
 gt 86 84 (.load 9 true false) [.t 2],
 gt 87 84 (.call 24) [.t 85,.t 86],
 gt 88 84 (.bin .eql) [.t 87,cI 3],
 ii 89 .pick [.t 84,.t 88,.c (.p (.bool false))],
 mv 90 89,
 gt 91 90 (.mov false) [.t 4],
 gt 92 90 (.bin .eql) [.t 91,cI 1],
 ii 93 .pick [.t 90,.t 92,.c (.p (.bool false))],
 mv 94 93,
 gt 95 94 (.fad 3) [.t 3],
 gt 96 94 (.load 1 false false) [.t 95],
 gt 97 94 (.bin .eql) [.t 96,cI 1],
 ii 98 .pick [.t 94,.t 97,.c (.p (.bool false))],
 mv 99 98,
 gt 100 99 (.mov false) [.t 6],
 gt 101 99 (.bin .eql) [.t 100,cI 2],
 ii 102 .pick [.t 99,.t 101,.c (.p (.bool false))],
 mv 103 102,
 gt 104 103 (.fad 8) [.t 5],
 gt 105 103 (.load 1 false false) [.t 104],
 gt 106 103 (.bin .eql) [.t 105,cI 9],
 ii 107 .pick [.t 103,.t 106,.c (.p (.bool false))],
 mv 108 107,
 gt 109 108 (.mov false) [.t 7],
 gt 110 108 (.ob (.callo 30 false)) [.t 109],
 gt 111 108 (.bin .eql) [.t 110,cI 1],
 ii 112 .pick [.t 108,.t 111,.c (.p (.bool false))],
 mv 113 112,
 gt 114 113 (.mov false) [.t 7],
 gt 115 113 (.ob (.callo 29 false)) [.t 114,cI 1],
 ii 116 .pick [.t 113,.t 115,.c (.p (.bool false))],
 mv 117 116,
 gt 118 117 (.mov false) [.t 7],
 gt 119 117 (.ob (.callo 31 false)) [.t 118],
 gt 120 117 (.bin .eql) [.t 119,cI 1],
 ii 121 .pick [.t 117,.t 120,.c (.p (.bool false))],
 mv 122 121,
 gt 123 122 (.mov false) [.t 10],
 ii 124 .pick [.t 122,.t 123,.c (.p (.bool false))],
 mv 125 124,
 gt 126 125 (.mov false) [.t 11],
 gt 127 125 (.bin .eql) [.t 126,cI 4],
 ii 128 .pick [.t 125,.t 127,.c (.p (.bool false))],
 mv 129 128,
 gt 130 129 (.mov false) [.t 12],
 ii 131 .pick [.t 129,.t 130,.c (.p (.bool false))],
 mv 132 131,
 gt 133 132 (.mov false) [.t 8],
 gt 134 132 (.ob (.callo 39 false)) [.t 133],
 gt 135 132 (.bin .eql) [.t 134,cI 0],
 ii 136 .pick [.t 132,.t 135,.c (.p (.bool false))],
 mv 137 136,
 gt 138 137 (.mov false) [.t 13],
 ii 139 .pick [.t 137,.t 138,.c (.p (.bool false))],
 mv 140 139,
 gt 141 140 (.mov false) [.t 14],
 gt 142 140 .len [.t 141],
 gt 143 140 (.bin .eql) [.t 142,cI 1],
 ii 144 .pick [.t 140,.t 143,.c (.p (.bool false))],
 mv 145 144,
 gt 146 145 (.mov false) [.t 9],
 gt 147 145 (.ob (.callo 35 true)) [.t 146],
 gt 148 145 (.bin .eql) [.t 147,cI 0],
 ii 149 .pick [.t 145,.t 148,.c (.p (.bool false))],
 mt 0 149]
 .ret))))))))))))))⟩
theorem k15:aI Tryz.prog 15 Y8=true:=by kernel_rfl
open Go.RowKit
def F4:Fn:=⟨122,6,[.tmp 12],
 (.sr [ii 6 (.box 0 5) [.t 0],
 ii 8 (.box 1 4) [.t 2],
 ii 10 (.box 2 9) [.t 4],
 mc 12 (.bool false)]
 (.sr [ii 20 (.call 15) [],
 mt 13 20]
 (.seq
 (.sr [mv 21 13,
 ii 22 (.un .not) [.t 21]]
 (.cond (.t 22)
 (.sr [mc 12 (.bool false)]
 .ret)
 .skip))
 (.seq
 (.gp (.reg [ii 23 (.load 5 true false) [.t 6],
 ii 24 (.call 16) [.t 23],
 ⟨none,none,.store 5,[.t 6,.t 24]⟩]) (.lay 0 5))
 (.seq
 (.gp (.reg [ii 26 (.load 5 true false) [.t 6],
 ii 27 (.load 4 true false) [.t 8],
 ii 28 (.call 17) [.t 26,.t 27],
 mv 25 28,
 ii 29 (.ext 0) [.t 25],
 ii 30 (.ext 1) [.t 25],
 ⟨none,none,.store 4,[.t 8,.t 29]⟩,
 mt 14 30]) (.lay 1 4))
 (.seq
 (.sr [mv 31 14,
 ii 32 (.un .not) [.t 31],
 mv 33 32,
 gf 34 33 (.mov false) [.t 5],
 gf 35 33 (.bin .lss) [.t 34,cI 0],
 ii 36 .pick [.t 33,.c (.p (.bool true)),.t 35],
 mv 37 36,
 gf 38 37 (.mov false) [.t 5],
 gf 39 37 (.bin .gtr) [.t 38,cI 1099511627776],
 ii 40 .pick [.t 37,.c (.p (.bool true)),.t 39]]
 (.cond (.t 40)
 (.sr [mc 12 (.bool true)]
 .ret)
 .skip))
 (.seq
 (.gp (.reg [ii 42 (.load 5 true false) [.t 6],
 mv 43 1,
 ii 44 (.load 4 true false) [.t 8],
 mv 45 3,
 ii 46 (.call 18) [.t 42,.t 43,.t 44,.t 45],
 mv 41 46,
 ii 47 (.ext 0) [.t 41],
 ii 48 (.ext 1) [.t 41],
 ⟨some 15,none,.alloc 3 2 [Z0,.ow 4 true []],[]⟩,
 ⟨none,none,.store 2,[.t 15,.t 47]⟩,
 mt 14 48]) (.lay 3 2))
 (.seq
 (.sr [mv 49 14,
 ii 50 (.un .not) [.t 49],
 mv 51 50,
 gf 52 51 (.fad 5) [.t 10],
 gf 53 51 (.load 1 false false) [.t 52],
 gf 54 51 (.bin .lss) [.t 53,cI 1],
 ii 55 .pick [.t 51,.c (.p (.bool true)),.t 54],
 mv 56 55,
 gf 57 56 (.fad 6) [.t 10],
 gf 58 56 (.load 1 false false) [.t 57],
 gf 59 56 (.bin .lss) [.t 58,cI 0],
 ii 60 .pick [.t 56,.c (.p (.bool true)),.t 59],
 mv 61 60,
 gf 62 61 (.fad 3) [.t 10],
 gf 63 61 (.load 1 false false) [.t 62],
 gf 64 61 (.bin .lss) [.t 63,cI 0],
 ii 65 .pick [.t 61,.c (.p (.bool true)),.t 64],
 mv 66 65,
 gf 67 66 (.fad 7) [.t 10],
 gf 68 66 (.load 1 false false) [.t 67],
 gf 69 66 (.bin .lss) [.t 68,cI 0],
 ii 70 .pick [.t 66,.c (.p (.bool true)),.t 69],
 mv 71 70,
 gf 72 71 (.fad 5) [.t 10],
 gf 73 71 (.load 1 false false) [.t 72],
 gf 74 71 (.bin .gtr) [.t 73,cI 1000],
 ii 75 .pick [.t 71,.c (.p (.bool true)),.t 74],
 mv 76 75,
 gf 77 76 (.fad 3) [.t 10],
 gf 78 76 (.load 1 false false) [.t 77],
 gf 79 76 (.bin .gtr) [.t 78,cI 1000],
 ii 80 .pick [.t 76,.c (.p (.bool true)),.t 79],
 mv 81 80,
 gf 82 81 (.fad 3) [.t 10],
 gf 83 81 (.load 1 false false) [.t 82],
 gf 84 81 (.fad 2) [.t 10],
 gf 85 81 (.load 1 false false) [.t 84],
 gf 86 81 (.bin .geq) [.t 83,.t 85],
 ii 87 .pick [.t 81,.c (.p (.bool true)),.t 86]]
 (.cond (.t 87)
 (.sr [mv 88 14,
 mt 12 88]
 .ret)
 .skip))
 (.seq
 (.gp (.reg [ii 90 (.load 5 true false) [.t 6],
 ii 91 (.load 4 true false) [.t 8],
 ii 92 (.load 2 true false) [.t 15],
 ii 93 (.load 9 true false) [.t 10],
 mv 94 5,
 ii 95 (.call 20) [.t 90,.t 91,.t 92,.t 93,.t 94],
 mv 89 95,
 ii 96 (.ext 0) [.t 89],
 ii 97 (.ext 1) [.t 89],
 ⟨some 16,none,.alloc 4 9 [Z0,Z0,Z0,Z0,Z0,Z0,Z0,Z0,Z0],[]⟩,
 ⟨none,none,.store 9,[.t 16,.t 96]⟩,
 mt 17 97]) (.lay 4 9))
 (.seq
 (.gp (.reg [ii 99 (.load 5 true false) [.t 6],
 ii 100 (.load 4 true false) [.t 8],
 ii 101 (.load 2 true false) [.t 15],
 ii 102 (.load 9 true false) [.t 10],
 mv 103 5,
 ii 104 (.call 21) [.t 99,.t 100,.t 101,.t 102,.t 103],
 mv 98 104,
 ii 105 (.ext 0) [.t 98],
 ii 106 (.ext 1) [.t 98],
 ⟨some 18,none,.alloc 5 9 [Z0,Z0,Z0,Z0,Z0,Z0,Z0,Z0,Z0],[]⟩,
 ⟨none,none,.store 9,[.t 18,.t 105]⟩,
 mt 19 106]) (.lay 5 9))
 (.seq
 (.regd [ii 107 (.at 4 (.load 9 true false)) [.t 16],
 ii 108 (.at 5 (.load 9 true false)) [.t 18],
 ii 109 (.eqs 9 false) [.t 107,.t 108],
 mv 110 109,
 gt 111 110 (.mov false) [.t 17],
 gt 112 110 (.mov false) [.t 19],
 gt 113 110 (.bin .eql) [.t 111,.t 112],
 ii 114 .pick [.t 110,.t 113,.c (.p (.bool false))],
 mv 115 114,
 gt 116 115 (.at 2 (.load 9 true false)) [.t 10],
 gt 117 115 (.pl (.call 22)) [.t 116],
 gt 118 115 (.at 2 (.load 9 true false)) [.t 10],
 gt 119 115 (.pl (.call 23)) [.t 118],
 gt 120 115 (.eqb false) [.t 117,.t 119],
 ii 121 .pick [.t 115,.t 120,.c (.p (.bool false))],
 mt 12 121])
 .ret)))))))))))⟩
theorem k4:aI Tryz.prog 4 F4=true:=by kernel_rfl
def F3:Fn:=⟨212,8,[.tmp 12],
 (.sr [ii 6 (.box 0 5) [.t 0],
 ii 8 (.box 1 4) [.t 2],
 mc 12 (.bool false)]
 (.sr [ii 25 (.call 15) [],
 mt 13 25]
 (.seq
 (.sr [mv 26 13,
 ii 27 (.un .not) [.t 26]]
 (.cond (.t 27)
 (.sr [mc 12 (.bool false)]
 .ret)
 .skip))
 (.seq
 (.gp (.reg [ii 28 (.load 5 true false) [.t 6],
 ii 29 (.call 16) [.t 28],
 ⟨none,none,.store 5,[.t 6,.t 29]⟩]) (.lay 0 5))
 (.seq
 (.gp (.reg [ii 31 (.load 5 true false) [.t 6],
 ii 32 (.load 4 true false) [.t 8],
 ii 33 (.call 17) [.t 31,.t 32],
 mv 30 33,
 ii 34 (.ext 0) [.t 30],
 ii 35 (.ext 1) [.t 30],
 ⟨none,none,.store 4,[.t 8,.t 34]⟩,
 mt 14 35]) (.lay 1 4))
 (.seq
 (.sr [mv 36 14,
 ii 37 (.un .not) [.t 36],
 mv 38 37,
 gf 39 38 (.mov false) [.t 4],
 gf 40 38 (.bin .lss) [.t 39,cI 0],
 ii 41 .pick [.t 38,.c (.p (.bool true)),.t 40],
 mv 42 41,
 gf 43 42 (.mov false) [.t 4],
 gf 44 42 (.bin .gtr) [.t 43,cI 1073741824],
 ii 45 .pick [.t 42,.c (.p (.bool true)),.t 44],
 mv 46 45,
 gf 47 46 (.mov false) [.t 5],
 gf 48 46 (.bin .lss) [.t 47,cI 1],
 ii 49 .pick [.t 46,.c (.p (.bool true)),.t 48],
 mv 50 49,
 gf 51 50 (.mov false) [.t 5],
 gf 52 50 (.bin .gtr) [.t 51,cI 300],
 ii 53 .pick [.t 50,.c (.p (.bool true)),.t 52]]
 (.cond (.t 53)
 (.sr [mc 12 (.bool true)]
 .ret)
 .skip))
 (.seq
 (.gp (.reg [ii 55 (.load 5 true false) [.t 6],
 mv 56 1,
 ii 57 (.load 4 true false) [.t 8],
 mv 58 3,
 ii 59 (.call 18) [.t 55,.t 56,.t 57,.t 58],
 mv 54 59,
 ii 60 (.ext 0) [.t 54],
 ii 61 (.ext 1) [.t 54],
 ⟨some 15,none,.alloc 2 2 [Z0,.ow 4 true []],[]⟩,
 ⟨none,none,.store 2,[.t 15,.t 60]⟩,
 mt 14 61]) (.lay 2 2))
 (.seq
 (.sr [mv 62 14,
 ii 63 (.un .not) [.t 62],
 mv 64 63,
 gf 65 64 (.fad 1) [.t 15],
 gf 66 64 (.load 1 false false) [.t 65],
 gf 67 64 .len [.t 66],
 gf 68 64 (.bin .eql) [.t 67,cI 0],
 ii 69 .pick [.t 64,.c (.p (.bool true)),.t 68]]
 (.cond (.t 69)
 (.sr [mc 12 (.bool false)]
 .ret)
 .skip))
 (.seq
 (.gp (.reg [ii 70 (.load 2 true false) [.t 15],
 mv 71 4,
 mv 72 5,
 ii 73 (.call 19) [.t 70,.t 71,.t 72],
 ⟨some 16,none,.alloc 3 9 [Z0,Z0,Z0,Z0,Z0,Z0,Z0,Z0,Z0],[]⟩,
 ⟨none,none,.store 9,[.t 16,.t 73]⟩]) (.lay 3 9))
 (.seq
 (.gp (.reg [mv 74 4,
 mv 75 5,
 fa 76 1 15,
 ld 77 76,
 ii 78 (.iad 4) [.t 77,cI 0],
 fa 79 3 78,
 ld 80 79,
 ⟨some 81,none,.build [.int .i64 0,.int .i64 0,.int .i64 0,.int .i64 0,.int .i64 0,.int .i64 0,.int .i64 0,.int .i64 0,.int .i64 0] [(0,1),(1,1),(2,1),(5,1)],[cI 2,.t 74,.t 75,.t 80]⟩,
 ⟨some 17,none,.alloc 4 9 [Z0,Z0,Z0,Z0,Z0,Z0,Z0,Z0,Z0],[]⟩,
 ⟨none,none,.store 9,[.t 17,.t 81]⟩]) (.lay 4 9))
 (.seq
 (.sr [ii 82 (.load 9 true false) [.t 16],
 ii 83 (.load 9 true false) [.t 17],
 ii 84 (.eqs 9 true) [.t 82,.t 83]]
 (.cond (.t 84)
 (.sr [mc 12 (.bool false)]
 .ret)
 .skip))
 (.seq
 (.sr [mv 85 4,
 mt 18 85]
 (.block 0
 (.loop [0,1,2,3,12,13,14,17,19,20,21,22,23,24,25,26,27,28,29,30,31,32,33,34,35,36,37,38,39,40,41,42,43,44,45,46,47,48,49,50,51,52,53,54,55,56,57,58,59,60,61,62,63,64,65,66,67,68,69,70,71,72,73,74,75,76,77,78,79,80,81,82,83,84,85,86,87,88,89,90,91,92,93,94,95,96,97,98,99,100,101,102,103,104,105,106,107,108,109,110,111,112,113,114,115,116,117,118,119,120,121,122,123,124,125,126,127,128,129,130,131,132,133,134,135,136,137,138,139,140,141,142,143,144,145,146,147,148,149,150,151,152,153,154,155,156,157,158,159,160,161,162,163,164,165,166,167,168,169,170,171,172,173,174,175,176,177,178,179,180,181,182,183,184,185,186,187,188,189,190,191,192,193,194,195,196,197,198,199,200,201,202,203,204,205,206,207,208,209,210,211] [5,6,7]
 (.seq
 (.sr [mv 86 18,
 mv 87 4,
 b1 88 .add 87 (.int .i64 500),
 b2 89 .lss 86 88]
 (.cond (.t 89)
 .skip
 (.exit 0)))
 (.seq
 (.block 1
 (.seq
 (.gp (.reg [ii 93 (.load 5 true false) [.t 6],
 ii 94 (.load 4 true false) [.t 8],
 ii 95 (.load 2 true false) [.t 15],
 ii 96 (.load 9 true false) [.t 16],
 mv 97 18,
 ii 98 (.call 20) [.t 93,.t 94,.t 95,.t 96,.t 97],
 mv 92 98,
 ii 99 (.ext 0) [.t 92],
 ii 100 (.ext 1) [.t 92],
 ⟨some 19,none,.alloc 5 9 [Z0,Z0,Z0,Z0,Z0,Z0,Z0,Z0,Z0],[]⟩,
 ⟨none,none,.store 9,[.t 19,.t 99]⟩,
 mt 20 100]) (.lay 5 9))
 (.seq
 (.gp (.reg [ii 102 (.load 5 true false) [.t 6],
 ii 103 (.load 4 true false) [.t 8],
 ii 104 (.load 2 true false) [.t 15],
 ii 105 (.load 9 true false) [.t 16],
 mv 106 18,
 ii 107 (.call 21) [.t 102,.t 103,.t 104,.t 105,.t 106],
 mv 101 107,
 ii 108 (.ext 0) [.t 101],
 ii 109 (.ext 1) [.t 101],
 ⟨some 21,none,.alloc 6 9 [Z0,Z0,Z0,Z0,Z0,Z0,Z0,Z0,Z0],[]⟩,
 ⟨none,none,.store 9,[.t 21,.t 108]⟩,
 mt 22 109]) (.lay 6 9))
 (.seq
 (.seq
 (.regd [ii 110 (.at 5 (.load 9 true false)) [.t 19],
 ii 111 (.at 6 (.load 9 true false)) [.t 21],
 ii 112 (.eqs 9 true) [.t 110,.t 111],
 mv 113 112,
 gf 114 113 (.mov false) [.t 20],
 gf 115 113 (.mov false) [.t 22],
 gf 116 113 (.bin .neq) [.t 114,.t 115],
 ii 117 .pick [.t 113,.c (.p (.bool true)),.t 116],
 mv 118 117,
 gf 119 118 (.at 5 (.load 9 true false)) [.t 19],
 gf 120 118 (.pl (.call 22)) [.t 119],
 gf 121 118 (.at 5 (.load 9 true false)) [.t 19],
 gf 122 118 (.pl (.call 23)) [.t 121],
 gf 123 118 (.eqb true) [.t 120,.t 122],
 ii 124 .pick [.t 118,.c (.p (.bool true)),.t 123]])
 (.cond (.t 124)
 (.sr [mc 12 (.bool false)]
 .ret)
 .skip))
 (.seq
 (.seq
 (.regd [ii 125 (.at 5 (.load 9 true false)) [.t 19],
 ii 126 (.pl (.call 22)) [.t 125],
 mv 127 126,
 gt 128 127 (.at 2 (.load 2 true false)) [.t 15],
 gt 129 127 (.at 5 (.load 9 true false)) [.t 19],
 gt 130 127 (.pl (.call 24)) [.t 128,.t 129],
 gt 131 127 (.mov false) [.t 4],
 gt 132 127 (.fad 1) [.t 15],
 gt 133 127 (.at 2 (.load 1 false false)) [.t 132],
 gt 134 127 (.fad 4) [.t 19],
 gt 135 127 (.at 5 (.load 1 false false)) [.t 134],
 gt 136 127 (.iad 4) [.t 133,.t 135],
 gt 137 127 (.fad 1) [.t 136],
 gt 138 127 (.loadp 1 false) [.t 137],
 gt 139 127 (.bin .add) [.t 131,.t 138],
 gt 140 127 (.bin .neq) [.t 130,.t 139],
 gt 141 127 (.mov false) [.t 140],
 gf 142 141 (.at 2 (.load 2 true false)) [.t 15],
 gf 143 141 (.at 5 (.load 9 true false)) [.t 19],
 gf 144 141 (.pl (.call 25)) [.t 142,.t 143],
 gf 145 141 (.at 2 (.load 2 true false)) [.t 15],
 gf 146 141 (.fad 4) [.t 19],
 gf 147 141 (.at 5 (.load 1 false false)) [.t 146],
 gf 148 141 (.mov false) [.t 4],
 gf 149 141 (.pl (.call 26)) [.t 145,.t 147,.t 148],
 gf 150 141 (.bin .neq) [.t 144,.t 149],
 gt 151 127 .pick [.t 141,.c (.p (.bool true)),.t 150],
 ii 152 .pick [.t 127,.t 151,.c (.p (.bool false))]])
 (.cond (.t 152)
 (.sr [mc 12 (.bool false)]
 .ret)
 .skip))
 (.seq
 (.gp (.reg [ii 153 (.load 9 true false) [.t 19],
 ⟨none,none,.store 9,[.t 16,.t 153]⟩]) (.lay 3 9))
 (.sr [mv 154 20]
 (.block 2
 (.sr [b1 156 .eql 154 (.int .i64 2),
 mt 155 156]
 (.cond (.t 155)
 (.sr [fa 157 3 19,
 ld 158 157,
 mv 159 5,
 b2 160 .eql 158 159,
 mv 161 160,
 gt 162 161 (.mov false) [.t 5],
 gt 163 161 (.fad 0) [.t 8],
 gt 164 161 (.load 1 false false) [.t 163],
 gt 165 161 (.bin .leq) [.t 162,.t 164],
 ii 166 .pick [.t 161,.t 165,.c (.p (.bool false))],
 mv 167 166,
 gt 168 167 (.fad 8) [.t 19],
 gt 169 167 (.load 1 false false) [.t 168],
 gt 170 167 (.mov false) [.t 18],
 gt 171 167 (.bin .add) [.t 170,cI 1],
 gt 172 167 (.bin .eql) [.t 169,.t 171],
 ii 173 .pick [.t 167,.t 172,.c (.p (.bool false))],
 mt 12 173]
 .ret)
 (.sr [b1 175 .eql 154 (.int .i64 5),
 mt 174 175]
 (.cond (.t 174)
 (.sr [fa 176 3 19,
 ld 177 176,
 fa 178 0 8,
 ld 179 178,
 b2 180 .eql 177 179,
 mv 181 180,
 gt 182 181 (.mov false) [.t 5],
 gt 183 181 (.fad 0) [.t 8],
 gt 184 181 (.load 1 false false) [.t 183],
 gt 185 181 (.bin .gtr) [.t 182,.t 184],
 ii 186 .pick [.t 181,.t 185,.c (.p (.bool false))],
 mv 187 186,
 gt 188 187 (.fad 5) [.t 19],
 gt 189 187 (.load 1 false false) [.t 188],
 gt 190 187 (.bin .eql) [.t 189,cI 0],
 ii 191 .pick [.t 187,.t 190,.c (.p (.bool false))],
 mt 12 191]
 .ret)
 (.seq
 (.sr [b1 193 .eql 154 (.int .i64 3),
 mt 192 193]
 (.cond (.t 192)
 .skip
 (.reg [b1 194 .eql 154 (.int .i64 4),
 mt 192 194])))
 (.cond (.t 192)
 (.seq
 (.seq
 (.gp (.reg [ii 196 (.load 5 true false) [.t 6],
 ii 197 (.load 4 true false) [.t 8],
 ii 198 (.load 2 true false) [.t 15],
 ii 199 (.load 9 true false) [.t 16],
 mv 200 18,
 ii 201 (.call 20) [.t 196,.t 197,.t 198,.t 199,.t 200],
 mv 195 201,
 ii 202 (.ext 0) [.t 195],
 ii 203 (.ext 1) [.t 195],
 ⟨some 23,none,.alloc 7 9 [Z0,Z0,Z0,Z0,Z0,Z0,Z0,Z0,Z0],[]⟩,
 ⟨none,none,.store 9,[.t 23,.t 202]⟩,
 mt 24 203]) (.lay 7 9))
 (.sr [mv 204 24,
 b1 205 .neq 204 (.int .i64 0),
 mv 206 205,
 gf 207 206 (.load 9 true false) [.t 23],
 gf 208 206 (.load 9 true false) [.t 16],
 gf 209 206 (.eqs 9 true) [.t 207,.t 208],
 ii 210 .pick [.t 206,.c (.p (.bool true)),.t 209]]
 (.cond (.t 210)
 (.sr [mc 12 (.bool false)]
 .ret)
 .skip)))
 (.gp (.reg [fa 211 0 16,
 ⟨none,none,.store 1,[.t 211,cI 2]⟩]) (.lay 3 9)))
 .skip))))))))))))))
 (.reg [mv 90 18,
 b1 91 .add 90 (.int .i64 1),
 mt 18 91]))))))
 (.sr [mc 12 (.bool false)]
 .ret)))))))))))))⟩
theorem k3:aI Tryz.prog 3 F3=true:=by kernel_rfl
open Go.RowKit Ma
open Go.RowKit Go.ChangeShapes Go.WideShapes Go.ChangeAt Ma
theorem u71:Tryz.prog.underlying 66=some (.slice 2):=by kernel_rfl
theorem HH:Tryz.prog.wantsStandIn 66=false:=by kernel_rfl
theorem TX:GW Tryz.prog 12 66=true:=by kernel_rfl
theorem s71:xN Tryz.prog 66=false:=by kernel_rfl
theorem c2:Tryz.prog.cellsOf 2=1:=by kernel_rfl
theorem QT{n:Nat}{cs:List PV}(h:RdT Tryz.prog n 66 cs):∃nl,∃l:List Int,cs=[.sl 1 nl (l.map eI)]/\(nl=true->l=[]):=by
 obtain⟨nl,l,rfl,hn⟩:=EI u71 h (f:=eI) fun n' rcs hr=>by
  obtain⟨q,rfl⟩:=OW u2 hr;rw[s2];exact⟨q,rfl⟩
 exact⟨nl,l,by rw[c2],hn⟩
open Go.RowKit
def T54:Fn:=⟨9,2,[.tmp 2],
 (.sr [mc 2 (.atom (.pointer none))]
 (.seq
 (.gp (.gp (.reg [mt 3 0,
 ii 4 .mx [.t 3,cI 0],
 ii 5 .mn [.t 4,cI 1000],
 ii 6 (.mkmap 0) [],
 ⟨some 7,none,.ob (.bldo [.int .i64 0,.sl 4 true [],.atom (.map none),.int .i64 0] [(0,1),(2,1)]),[.t 5,.t 6]⟩,
 ii 8 (.box 1 4) [.t 7],
 mt 2 8]) (.shut (.t 8) 1)) (.shut (.t 8) 2))
 .ret))⟩
theorem h54:aI Tryz.prog 54 T54=true:=by kernel_rfl
def T58:Fn:=⟨10,0,[.tmp 2],
 (.gh (.lay 0 4) (.sr [mc 2 (.int .i64 0)]
 (.seq
 (.sr [mv 3 0,
 ii 4 (.ob (.eqp false)) [.t 3,.c (.p (.atom (.pointer none)))]]
 (.cond (.t 4)
 (.sr [mc 2 (.int .i64 0)]
 .ret)
 .skip))
 (.seq
 (.gp (.reg [mt 5 0,
 ii 6 .nilchk [.t 5],
 fa 7 1 6,
 ld 8 7,
 ii 9 .len [.t 8],
 mt 2 9]) (.lay 0 4))
 .ret))))⟩
theorem Y9:aI Tryz.prog 58 T58=true:=by kernel_rfl
def WG:Fn:=⟨50,3,[.tmp 6],
 (.gh (.lay 3 4) (.sr [mc 6 (.bool false)]
 (.seq
 (.gh (.opn [mv 9 0,ii 10 .nilchk [.t 9],fa 11 1 10] (.t 11) 2 true) (.gh (.lay 3 4) (.gp (.gp (.gp (.pre [7,8,24,26,29,31,35,37,40,42,45,47] [] [0,1] (.rega [mv 9 0,
 ii 10 .nilchk [.t 9],
 fa 11 1 10,
 ii 12 (.at 3 (.load 1 false false)) [.t 11],
 mt 13 1,
 ii 14 (.iad 4) [.t 12,.t 13],
 ii 15 (.at 2 (.load 4 true false)) [.t 14],
 mv 16 0,
 ii 17 .nilchk [.t 16],
 fa 18 1 17,
 ii 19 (.at 3 (.load 1 false false)) [.t 18],
 mt 20 2,
 ii 21 (.iad 4) [.t 19,.t 20],
 ii 22 (.at 2 (.load 4 true false)) [.t 21],
 ⟨some 7,none,.alloc 0 4 [Z0,Z0,Z0,Z0],[]⟩,
 ⟨some 8,none,.alloc 1 4 [Z0,Z0,Z0,Z0],[]⟩,
 ⟨none,none,.at 0 (.store 4),[.t 7,.t 15]⟩,
 ⟨none,none,.at 1 (.store 4),[.t 8,.t 22]⟩])) (.shut (.t 0) 1)) (.forget [12,14,19,21])) (.lay 3 4))))
 (.seq
 (.block 0
 (.sr [fa 24 1 7,
 ld 25 24,
 fa 26 1 8,
 ld 27 26,
 b2 28 .neq 25 27,
 mt 23 28]
 (.cond (.t 23)
 (.sr [fa 29 1 7,
 ld 30 29,
 fa 31 1 8,
 ld 32 31,
 b2 33 .lss 30 32,
 mt 6 33]
 .ret)
 (.sr [fa 35 2 7,
 ld 36 35,
 fa 37 2 8,
 ld 38 37,
 b2 39 .neq 36 38,
 mt 34 39]
 (.cond (.t 34)
 (.sr [fa 40 2 7,
 ld 41 40,
 fa 42 2 8,
 ld 43 42,
 b2 44 .lss 41 43,
 mt 6 44]
 .ret)
 .skip)))))
 (.sr [fa 45 3 7,
 ld 46 45,
 fa 47 3 8,
 ld 48 47,
 b2 49 .lss 46 48,
 mt 6 49]
 .ret)))))⟩
theorem KF:aI Tryz.prog 140 WG=true:=by kernel_rfl
def T88:Fn:=⟨62,2,[],
 (.gh (.lay 2 4) (.seq
 (.gh (.opn [mv 6 0,ii 7 .nilchk [.t 6],fa 8 1 7] (.t 8) 0 true) (.gh (.lay 2 4) (.gp (.gp (.gp (.regd [mv 6 0,
 ii 7 .nilchk [.t 6],
 fa 8 1 7,
 ii 9 (.at 2 (.load 1 false false)) [.t 8],
 mv 10 1,
 mv 11 0,
 ii 12 .nilchk [.t 11],
 fa 13 1 12,
 ii 14 (.at 2 (.load 1 false false)) [.t 13],
 mv 15 2,
 mv 16 0,
 ii 17 .nilchk [.t 16],
 fa 18 1 17,
 ii 19 (.at 2 (.load 1 false false)) [.t 18],
 mv 20 2,
 ii 21 (.iad 4) [.t 19,.t 20],
 ii 22 (.at 0 (.load 4 true false)) [.t 21],
 mv 23 0,
 ii 24 .nilchk [.t 23],
 fa 25 1 24,
 ii 26 (.at 2 (.load 1 false false)) [.t 25],
 mv 27 1,
 ii 28 (.iad 4) [.t 26,.t 27],
 ii 29 (.at 0 (.load 4 true false)) [.t 28],
 ii 30 (.iad 4) [.t 9,.t 10],
 ⟨none,none,.at 0 (.store 4),[.t 30,.t 22]⟩,
 ii 31 (.iad 4) [.t 14,.t 15],
 ⟨none,none,.at 0 (.store 4),[.t 31,.t 29]⟩]) (.shut (.t 0) 1)) (.forget [9,14,19,21,26,28,30,31,39,41,42,51,53,54])) (.lay 2 4))))
 (.gh (.opn [mv 32 0,ii 33 .nilchk [.t 32],fa 34 2 33] (.t 34) 1 false) (.gh (.opn [mv 36 0,ii 37 .nilchk [.t 36],fa 38 1 37] (.t 38) 0 true) (.gh (.stamp [mv 32 0,ii 33 .nilchk [.t 32],fa 34 2 33,ld 35 34] (.t 35)) (.gh (.lay 2 4) (.gp (.gp (.gp (.gp (.gp (.regd [mv 32 0,
 ii 33 .nilchk [.t 32],
 fa 34 2 33,
 ii 35 (.at 2 (.load 1 false false)) [.t 34],
 mv 36 0,
 ii 37 .nilchk [.t 36],
 fa 38 1 37,
 ii 39 (.at 2 (.load 1 false false)) [.t 38],
 mv 40 1,
 ii 41 (.iad 4) [.t 39,.t 40],
 fa 42 0 41,
 ii 43 (.at 0 (.load 1 false false)) [.t 42],
 mv 44 0,
 ii 45 .nilchk [.t 44],
 fa 46 2 45,
 ii 47 (.at 2 (.load 1 false false)) [.t 46],
 mv 48 0,
 ii 49 .nilchk [.t 48],
 fa 50 1 49,
 ii 51 (.at 2 (.load 1 false false)) [.t 50],
 mv 52 2,
 ii 53 (.iad 4) [.t 51,.t 52],
 fa 54 0 53,
 ii 55 (.at 0 (.load 1 false false)) [.t 54],
 mv 56 1,
 mv 57 2,
 ii 58 (.ob (.mpe (some .i64))) [.t 35,.t 43],
 ii 59 (.ext 1) [.t 58],
 ⟨none,none,.ob .ents,[.t 35,.t 59,.t 56]⟩,
 ii 60 (.ob (.mpe (some .i64))) [.t 47,.t 55],
 ii 61 (.ext 1) [.t 60],
 ⟨none,none,.ob .ents,[.t 47,.t 61,.t 57]⟩]) (.unst [] (.t 35))) (.shut (.t 0) 2)) (.shut (.t 0) 1)) (.forget [9,14,19,21,26,28,30,31,35,39,41,42,47,51,53,54])) (.lay 2 4))))))))⟩
theorem h88:aI Tryz.prog 88 T88=true:=by kernel_rfl
def T87:Fn:=⟨23,0,[],
 (.gh (.lay 0 4) (.block 0
 (.loop [4,5,6,7,8,9,10,11,12,13,14,15,16,17,18,19,20,21,22] []
 (.seq
 (.seq
 (.gp (.reg [mv 4 1,
 b1 5 .gtr 4 (.int .i64 0),
 mt 6 5,
 gt 7 6 (.mov false) [.t 0],
 gt 8 6 (.mov false) [.t 1],
 gt 9 6 (.mov false) [.t 1],
 gt 10 6 (.bin .sub) [.t 9,cI 1],
 gt 11 6 (.bin .quo) [.t 10,cI 2],
 gt 12 6 (.ob (.callo 140 false)) [.t 7,.t 8,.t 11],
 ii 13 .pick [.t 6,.t 12,.c (.p (.bool false))]]) (.lay 0 4))
 (.cond (.t 13)
 .skip
 (.exit 0)))
 (.block 1
 (.seq
 (.gp (.reg [mv 14 0,
 mv 15 1,
 mv 16 1,
 b1 17 .sub 16 (.int .i64 1),
 b1 18 .quo 17 (.int .i64 2),
 ii 19 (.ob (.callo 88 false)) [.t 14,.t 15,.t 18]]) (.lay 0 4))
 (.reg [mv 20 1,
 b1 21 .sub 20 (.int .i64 1),
 b1 22 .quo 21 (.int .i64 2),
 mt 1 22])))))))⟩
theorem h87:aI Tryz.prog 87 T87=true:=by kernel_rfl
def T89:Fn:=⟨44,0,[],
 (.gh (.lay 0 4) (.block 0
 (.loop [4,5,6,7,8,9,10,11,12,13,14,15,16,17,18,19,20,21,22,23,24,25,26,27,28,29,30,31,32,33,34,35,36,37,38,39,40,41,42,43] []
 (.block 1
 (.sr [mv 5 1,
 ii 6 (.bin .mul) [cI 2,.t 5],
 b1 7 .add 6 (.int .i64 1),
 mt 4 7]
 (.seq
 (.seq
 (.gp (.reg [mv 8 4,
 b1 9 .add 8 (.int .i64 1),
 mv 10 0,
 ii 11 .nilchk [.t 10],
 fa 12 1 11,
 ld 13 12,
 ii 14 .len [.t 13],
 b2 15 .lss 9 14,
 mt 16 15,
 gt 17 16 (.mov false) [.t 0],
 gt 18 16 (.mov false) [.t 4],
 gt 19 16 (.bin .add) [.t 18,cI 1],
 gt 20 16 (.mov false) [.t 4],
 gt 21 16 (.ob (.callo 140 false)) [.t 17,.t 19,.t 20],
 ii 22 .pick [.t 16,.t 21,.c (.p (.bool false))]]) (.lay 0 4))
 (.cond (.t 22)
 (.reg [mv 23 4,
 b1 24 .add 23 (.int .i64 1),
 mt 4 24])
 .skip))
 (.seq
 (.seq
 (.gp (.reg [mv 25 4,
 mv 26 0,
 ii 27 .nilchk [.t 26],
 fa 28 1 27,
 ld 29 28,
 ii 30 .len [.t 29],
 b2 31 .geq 25 30,
 mt 32 31,
 gf 33 32 (.mov false) [.t 0],
 gf 34 32 (.mov false) [.t 4],
 gf 35 32 (.mov false) [.t 1],
 gf 36 32 (.ob (.callo 140 false)) [.t 33,.t 34,.t 35],
 gf 37 32 (.un .not) [.t 36],
 ii 38 .pick [.t 32,.c (.p (.bool true)),.t 37]]) (.lay 0 4))
 (.cond (.t 38)
 .ret
 .skip))
 (.seq
 (.gp (.reg [mv 39 0,
 mt 40 1,
 mv 41 4,
 ii 42 (.ob (.callo 88 false)) [.t 39,.t 40,.t 41]]) (.lay 0 4))
 (.reg [mt 43 4,
 mt 1 43])))))))))⟩
theorem h89:aI Tryz.prog 89 T89=true:=by kernel_rfl
def T56:Fn:=⟨54,2,[.tmp 4],
 (.gh (.lay 2 4) (.sr [mc 4 (.bool false)]
 (.seq
 (.sr [mv 8 0,
 ii 9 (.ob (.eqp false)) [.t 8,.c (.p (.atom (.pointer none)))]]
 (.cond (.t 9)
 (.sr [mc 4 (.bool false)]
 .ret)
 .skip))
 (.seq
 (.gp (.gp (.gp (.reg [mv 11 0,
 ii 12 .nilchk [.t 11],
 fa 13 2 12,
 ii 14 (.ob (.ldo 0 false)) [.t 13],
 mv 15 1,
 ii 16 (.ob (.lookx (some .i64) (.int .i64 0) true)) [.t 14,.t 15],
 mt 10 16,
 ii 17 (.ext 0) [.t 10],
 ii 18 (.ext 1) [.t 10],
 mt 5 17,
 mt 6 18]) (.shut (.t 0) 2)) (.forget [14,43])) (.lay 2 4))
 (.seq
 (.sr [mt 19 6,
 ii 20 (.un .not) [.t 19]]
 (.cond (.t 20)
 (.sr [mc 4 (.bool false)]
 .ret)
 .skip))
 (.seq
 (.gp (.reg [mv 21 0,
 ii 22 .nilchk [.t 21],
 fa 23 1 22,
 ld 24 23,
 ii 25 .len [.t 24],
 b1 26 .sub 25 (.int .i64 1),
 mt 7 26]) (.lay 2 4))
 (.seq
 (.gp (.reg [mv 27 0,
 mv 28 5,
 mv 29 7,
 ii 30 (.ob (.callo 88 false)) [.t 27,.t 28,.t 29]]) (.lay 2 4))
 (.seq
 (.gp (.gp (.gp (.reg [mv 31 0,
 mv 32 0,
 ii 33 .nilchk [.t 32],
 fa 34 1 33,
 ii 35 (.ob (.ldo 1 true)) [.t 34],
 mv 36 7,
 ii 37 (.ob (.slx 4)) [.t 35,.t 36],
 ii 38 .nilchk [.t 31],
 fa 39 1 38,
 ⟨none,none,.store 1,[.t 39,.t 37]⟩]) (.shut (.t 0) 1)) (.forget [24,35,37])) (.lay 2 4))
 (.seq
 (.gp (.gp (.gp (.reg [mv 40 0,
 ii 41 .nilchk [.t 40],
 fa 42 2 41,
 ii 43 (.ob (.ldo 0 false)) [.t 42],
 mt 44 1,
 ⟨none,none,.ob (.mdel (some .i64)),[.t 43,.t 44]⟩]) (.shut (.t 0) 2)) (.forget [14,43])) (.lay 2 4))
 (.seq
 (.sr [mv 45 5,
 mt 46 7,
 b2 47 .lss 45 46]
 (.cond (.t 47)
 (.seq
 (.gp (.reg [mv 48 0,
 mv 49 5,
 ii 50 (.ob (.callo 87 false)) [.t 48,.t 49]]) (.lay 2 4))
 (.gp (.reg [mt 51 0,
 mt 52 5,
 ii 53 (.ob (.callo 89 false)) [.t 51,.t 52]]) (.lay 2 4)))
 .skip))
 (.sr [mc 4 (.bool true)]
 .ret)))))))))))⟩
theorem UW:aI Tryz.prog 56 T56=true:=by kernel_rfl
def T55:Fn:=⟨69,2,[.tmp 8],
 (.gh (.lay 2 4) (.sr [mc 8 (.bool false)]
 (.seq
 (.sr [mv 9 0,
 ii 10 (.ob (.eqp false)) [.t 9,.c (.p (.atom (.pointer none)))]]
 (.cond (.t 10)
 (.sr [mc 8 (.bool false)]
 .ret)
 .skip))
 (.seq
 (.seq
 (.gp (.regd [mv 11 0,
 mv 12 1,
 ii 13 (.ob (.callo 56 false)) [.t 11,.t 12],
 ii 14 (.un .not) [.t 13],
 mt 15 14,
 gt 16 15 (.mov false) [.t 0],
 gt 17 15 .nilchk [.t 16],
 gt 18 15 (.fad 1) [.t 17],
 gt 19 15 (.at 2 (.load 1 false false)) [.t 18],
 gt 20 15 .lenD [.t 19],
 gt 21 15 (.mov false) [.t 0],
 gt 22 15 .nilchk [.t 21],
 gt 23 15 (.fad 0) [.t 22],
 gt 24 15 (.at 2 (.load 1 false false)) [.t 23],
 gt 25 15 (.bin .geq) [.t 20,.t 24],
 ii 26 .pick [.t 15,.t 25,.c (.p (.bool false))]]) (.lay 2 4))
 (.cond (.t 26)
 (.sr [mc 8 (.bool false)]
 .ret)
 .skip))
 (.seq
 (.gp (.reg [mv 27 0,
 ii 28 .nilchk [.t 27],
 fa 29 3 28,
 ld 30 29,
 b1 31 .add 30 (.int .i64 1),
 ii 32 .nilchk [.t 27],
 fa 33 3 32,
 ⟨none,none,.store 1,[.t 33,.t 31]⟩]) (.lay 2 4))
 (.seq
 (.gh (.opn [mv 34 0,ii 35 .nilchk [.t 34],fa 36 2 35] (.t 36) 0 false) (.gh (.lay 2 4) (.gp (.gp (.gp (.gp (.regd [mv 34 0,
 ii 35 .nilchk [.t 34],
 fa 36 2 35,
 ii 37 (.at 2 (.load 1 false false)) [.t 36],
 mv 38 1,
 mv 39 0,
 ii 40 .nilchk [.t 39],
 fa 41 1 40,
 ii 42 (.at 2 (.load 1 false false)) [.t 41],
 ii 43 .lenD [.t 42],
 ⟨none,none,.ob (.mupx (some .i64)),[.t 37,.t 38,.t 43]⟩]) (.shut (.t 0) 2)) (.forget [37])) (.trim 3)) (.lay 2 4))))
 (.seq
 (.gh (.opn [mv 45 0,ii 46 .nilchk [.t 45],fa 47 1 46] (.t 47) 1 true) (.gh (.lay 2 4) (.gp (.gp (.gp (.gp (.pre [44,45,52] [] [] (.regm [mv 44 0,
 mv 45 0,
 ii 46 .nilchk [.t 45],
 fa 47 1 46,
 ii 48 (.at 2 (.load 1 false false)) [.t 47],
 mt 49 1,
 mt 50 2,
 mt 51 3,
 mv 52 0,
 ii 53 .nilchk [.t 52],
 fa 54 3 53,
 ii 55 (.at 2 (.load 1 false false)) [.t 54],
 ⟨some 56,none,.build [.int .i64 0,.int .i64 0,.int .i64 0,.int .i64 0] [(0,1),(1,1),(2,1),(3,1)],[.t 49,.t 50,.t 51,.t 55]⟩,
 ii 57 (.bsl 4 1) [.t 56],
 ii 58 (.ob (.appd 4 32 true)) [.t 48,.t 57],
 ii 59 .nilchk [.t 44],
 fa 60 1 59,
 ⟨none,none,.at 2 (.store 1),[.t 60,.t 58]⟩])) (.shut (.t 0) 1)) (.forget [19,42,48,58,65])) (.trim 3)) (.lay 2 4))))
 (.seq
 (.gp (.reg [mv 61 0,
 mt 62 0,
 ii 63 .nilchk [.t 62],
 fa 64 1 63,
 ld 65 64,
 ii 66 .len [.t 65],
 b1 67 .sub 66 (.int .i64 1),
 ii 68 (.ob (.callo 87 false)) [.t 61,.t 67]]) (.lay 2 4))
 (.sr [mc 8 (.bool true)]
 .ret)))))))))⟩
theorem W8:aI Tryz.prog 55 T55=true:=by kernel_rfl
def T57:Fn:=⟨16,1,[.tmp 2,.tmp 3],
 (.gh (.lay 1 4) (.sr [mc 2 (.int .i64 0),
 mc 3 (.bool false)]
 (.sr [mc 4 (.int .i64 0)]
 (.seq
 (.seq
 (.gp (.reg [mv 5 0,
 ii 6 (.ob (.callo 58 false)) [.t 5],
 b1 7 .eql 6 (.int .i64 0)]) (.lay 1 4))
 (.cond (.t 7)
 (.sr [mt 8 4,
 mt 2 8,
 mc 3 (.bool false)]
 .ret)
 .skip))
 (.seq
 (.gp (.gp (.gp (.reg [mt 9 0,
 ii 10 .nilchk [.t 9],
 fa 11 1 10,
 ii 12 (.ob (.ldo 0 true)) [.t 11],
 ii 13 (.iad 4) [.t 12,cI 0],
 fa 14 0 13,
 ld 15 14,
 mt 2 15,
 mc 3 (.bool true)]) (.shut (.t 0) 1)) (.forget [12,13,14])) (.lay 1 4))
 .ret)))))⟩
theorem W4:aI Tryz.prog 57 T57=true:=by kernel_rfl
def T27:Fn:=⟨4,1,[.tmp 0],
 (.sr [mc 0 (.atom (.pointer none))]
 (.seq
 (.gp (.gp (.reg [ii 1 (.ob (.callo 54 true)) [cI 1000],
 ⟨some 2,none,.ob (.bldo [.atom (.pointer none)] [(0,1)]),[.t 1]⟩,
 ii 3 (.box 0 1) [.t 2],
 mt 0 3]) (.shut (.t 3) 0)) (.trim 1))
 .ret))⟩
theorem h27:aI Tryz.prog 27 T27=true:=by kernel_rfl
def T28:Fn:=⟨23,1,[.tmp 6],
 (.gh (.lay 1 1) (.sr [mc 6 (.bool false)]
 (.seq
 (.gp (.gp (.gp (.reg [mv 7 0,
 ii 8 (.ob (.eqp true)) [.t 7,.c (.p (.atom (.pointer none)))],
 mt 9 8,
 gt 10 9 (.mov false) [.t 1],
 gt 11 9 (.bin .geq) [.t 10,cI 1],
 ii 12 .pick [.t 9,.t 11,.c (.p (.bool false))],
 mt 13 12,
 gt 14 13 (.mov true) [.t 0],
 gt 15 13 .nilchk [.t 14],
 gt 16 13 (.fad 0) [.t 15],
 gt 17 13 (.ob (.ldo 0 false)) [.t 16],
 gt 18 13 (.mov false) [.t 1],
 gt 19 13 (.mov true) [.t 2],
 gt 20 13 (.mov true) [.t 1],
 gt 21 13 (.ob (.callo 55 false)) [.t 17,.t 18,.t 19,.t 20],
 ii 22 .pick [.t 13,.t 21,.c (.p (.bool false))],
 mt 6 22]) (.shut (.t 0) 0)) (.forget [17])) (.lay 1 1))
 .ret)))⟩
theorem Z5:aI Tryz.prog 28 T28=true:=by kernel_rfl
def T29:Fn:=⟨15,1,[.tmp 4],
 (.gh (.lay 1 1) (.sr [mc 4 (.bool false)]
 (.seq
 (.gp (.gp (.gp (.reg [mv 5 0,
 ii 6 (.ob (.eqp true)) [.t 5,.c (.p (.atom (.pointer none)))],
 mt 7 6,
 gt 8 7 (.mov true) [.t 0],
 gt 9 7 .nilchk [.t 8],
 gt 10 7 (.fad 0) [.t 9],
 gt 11 7 (.ob (.ldo 0 false)) [.t 10],
 gt 12 7 (.mov true) [.t 1],
 gt 13 7 (.ob (.callo 56 false)) [.t 11,.t 12],
 ii 14 .pick [.t 7,.t 13,.c (.p (.bool false))],
 mt 4 14]) (.shut (.t 0) 0)) (.forget [11])) (.lay 1 1))
 .ret)))⟩
theorem h29:aI Tryz.prog 29 T29=true:=by kernel_rfl
def T30:Fn:=⟨16,1,[.tmp 2],
 (.gh (.lay 1 1) (.sr [mc 2 (.int .i64 0)]
 (.seq
 (.sr [mv 5 0,
 ii 6 (.ob (.eqp false)) [.t 5,.c (.p (.atom (.pointer none)))]]
 (.cond (.t 6)
 (.sr [mc 2 (.int .i64 0)]
 .ret)
 .skip))
 (.seq
 (.gp (.gp (.gp (.reg [mt 8 0,
 ii 9 .nilchk [.t 8],
 fa 10 0 9,
 ii 11 (.ob (.ldo 0 false)) [.t 10],
 ii 12 (.ob (.callo 57 false)) [.t 11],
 mt 7 12,
 ii 13 (.ext 0) [.t 7],
 ii 14 (.ext 1) [.t 7],
 mt 3 13,
 mt 4 14]) (.shut (.t 0) 0)) (.forget [11])) (.lay 1 1))
 (.sr [mt 15 3,
 mt 2 15]
 .ret)))))⟩
theorem XY:aI Tryz.prog 30 T30=true:=by kernel_rfl
def T31:Fn:=⟨10,1,[.tmp 2],
 (.gh (.lay 1 1) (.sr [mc 2 (.int .i64 0)]
 (.seq
 (.sr [mv 3 0,
 ii 4 (.ob (.eqp false)) [.t 3,.c (.p (.atom (.pointer none)))]]
 (.cond (.t 4)
 (.sr [mc 2 (.int .i64 0)]
 .ret)
 .skip))
 (.seq
 (.gp (.gp (.gp (.reg [mt 5 0,
 ii 6 .nilchk [.t 5],
 fa 7 0 6,
 ii 8 (.ob (.ldo 0 false)) [.t 7],
 ii 9 (.ob (.callo 58 false)) [.t 8],
 mt 2 9]) (.shut (.t 0) 0)) (.forget [8])) (.lay 1 1))
 .ret))))⟩
theorem h31:aI Tryz.prog 31 T31=true:=by kernel_rfl
open Go.RowKit
variable {P:Program}
theorem zO{f:FuncId}{args:List DV}{bs:List Box}{G K:List (Option Box)->DV->Prop}{bs':List (Option Box)}{r:DV}(k:K bs' r)(h:aX P f args bs bs' r:=by assumption)
  (g:G bs' r:=by first|exact .inr rfl|exact .inl rfl):∃bs' r,aX P f args bs bs' r/\G bs' r/\K bs' r:=⟨bs',r,h,g,k⟩
open Go.RowKit
def dJ(l:List PV):List (List Ob):=l.map fun x=>(aK x).map Ob.p
def dR(l:List PV):List (List DV):=l.map fun x=>(aK x).map DV.p
theorem SD(l:List PV):D6 (l.map Ob.p)=l.map DV.p:=by
 induction l with
 |nil=>rfl
 |cons x l ih=>simp only[List.map_cons,D6,ih];rfl
theorem eN(l:List PV):dO (dJ l)=dR l:=by
 induction l with
 |nil=>rfl
 |cons x l ih=>
  simp only[dJ,List.map_cons,dO,SD,dR] at ih ⊢;rw[ih]
theorem xV(l:List PV):(dJ l).length=l.length:=by simp[dJ]
theorem CF(l:List PV):(dR l).length=l.length:=by simp[dR]
theorem M6(l:List PV)(i:Nat):(dR l)[i]?=(l[i]?).map fun x=>(aK x).map DV.p:=by simp[dR]
theorem HE{α:Type}(l:List α)(i:Nat)(x : α):aJ l i x=l.set i x:=by
 induction l generalizing i with
 |nil=>cases i<;>rfl
 |cons a l ih=>cases i with
  |zero=>rfl
  |succ i=>simp only[aJ,List.set_cons_succ,ih]
theorem HO(l:List PV)(i:Nat)(x:PV):aJ (dR l) i ((aK x).map DV.p)=dR (l.set i x):=by
 rw[HE];simp[dR,List.map_set]
theorem HF(l:List PV)(n:Nat):(dR l).take n=dR (l.take n):=by simp[dR,List.map_take]
theorem EO(l:List PV):gH (l.map DV.p)=l.map DV.p:=by
 induction l with
 |nil=>rfl
 |cons x l ih=>simp only[List.map_cons,gH,ih];rfl
theorem yZ(l:List PV):aY (dR l)=dR l:=by
 induction l with
 |nil=>rfl
 |cons x l ih=>
  simp only[dR,List.map_cons,aY,EO] at ih ⊢;rw[ih]
theorem BV(l m:List PV):dR l++dR m=dR (l++m):=by simp[dR]
theorem T4(l:List PV):D7 (l.map DV.p)=some (l.map Ob.p):=by
 induction l with
 |nil=>rfl
 |cons x l ih=>simp only[List.map_cons,D7,GG,ih]
theorem JI(l:List PV):rT (dR l)=some (dJ l):=by
 induction l with
 |nil=>rfl
 |cons x l ih=>
  simp only[dR,dJ,List.map_cons,rT,T4] at ih ⊢;rw[ih]
theorem aC(j:Nat)(l:List PV):cS j (dR l)=true:=by rw[<-eN];exact a6 j _
theorem E4:∀(l:List PV),uC (l.map DV.p)=true
 |[]=>rfl
 |x ::l=>by simp only[List.map_cons,uC,E4 l,Bool.and_true];rfl
theorem wO:∀(l:List PV),bS (dR l)=true
 |[]=>rfl
 |x ::l=>by
  have:=wO l;simp only[dR,List.map_cons,bS,E4,Bool.true_and] at this ⊢;exact this
theorem HV(n:Nat)(l:List PV):zC n (dR l)=true:=by unfold zC;rw[wO];rfl
abbrev Mp:=List (Int×PV)
def mK(m:Mp):List PV:=m.map fun p=>.int .i64 p.1
def mV(m:Mp):List Ob:=m.map fun p=>.p p.2
def mR(m:Mp):List (List DV):=m.map fun p=>[.p (.int .i64 p.1),.p p.2]
theorem cB(m:Mp):dL (mK m) (mV m)=mR m:=by
 induction m with
 |nil=>rfl
 |cons p m ih=>simp only[mK,mV,mR,List.map_cons,dL] at ih ⊢;rw[ih];rfl
theorem BO(m:Mp):(mR m).length=m.length:=by simp[mR]
theorem aB(j:Nat)(m:Mp):cS j (mR m)=true:=by rw[<-cB];exact a7 j _ _
theorem zG(m:Mp):BH (mR m)=some (mK m,mV m):=by rw[<-cB];exact wF (by simp[mK,mV])
def iR(m:Mp)(v:Int):Option PV:=(m.find? fun p=>p.1 ==v).map (·.2)
def iQ(m:Mp)(v:Int)(x:PV):Mp:=match m with
 |[]=>[(v,x)]
 |p ::m=>if p.1=v then (p.1,x) ::m else p ::iQ m v x
def yU(m:Mp)(v:Int):Mp:=match m with
 |[]=>[]
 |p ::m=>if p.1=v then m else p ::yU m v
theorem yA(v k:Int)(d:DV)(rs:List (List DV)):gW (some .i64) (.int .i64 v) ([.p (.int .i64 k),d] ::rs)=if k=v then some (some d) else gW (some .i64) (.int .i64 v) rs:=by
 by_cases h:k=v<;>simp[gW,c7,cW,h]
theorem CU(v k:Int)(d u:DV)(rs:List (List DV)):iW (some .i64) (.int .i64 v) d ([.p (.int .i64 k),u] ::rs)=if k=v then some ([.p (.int .i64 k),d] ::rs) else (iW (some .i64) (.int .i64 v) d rs).map fun l=>[.p (.int .i64 k),u] ::l:=by
 by_cases h:k=v
 ·simp[iW,c7,cW,h]
 ·simp only[iW,c7,cW,h,decide_true,decide_false,if_true,if_false,Bool.false_eq_true]
  cases iW (some .i64) (.int .i64 v) d rs<;>rfl
theorem BS(v k:Int)(u:DV)(rs:List (List DV)):kQ (some .i64) (.int .i64 v) ([.p (.int .i64 k),u] ::rs)=if k=v then some rs else (kQ (some .i64) (.int .i64 v) rs).map fun l=>[.p (.int .i64 k),u] ::l:=by
 by_cases h:k=v
 ·simp[kQ,c7,cW,h]
 ·simp only[kQ,c7,cW,h,decide_true,decide_false,if_true,if_false,Bool.false_eq_true]
  cases kQ (some .i64) (.int .i64 v) rs<;>rfl
theorem mH(p:Int×PV)(m:Mp):mR (p ::m)=[.p (.int .i64 p.1),.p p.2] ::mR m:=rfl
theorem DZ(m:Mp)(v:Int):gW (some .i64) (.int .i64 v) (mR m)=some ((iR m v).map DV.p):=by
 induction m with
 |nil=>rfl
 |cons p m ih=>
  rw[mH,yA,ih]
  by_cases h:p.1=v<;>simp[h,iR]
theorem I0(m:Mp)(v:Int)(x:PV):iW (some .i64) (.int .i64 v) (.p x) (mR m)=some (mR (iQ m v x)):=by
 induction m with
 |nil=>rfl
 |cons p m ih=>
  rw[mH,CU,ih]
  by_cases h:p.1=v<;>simp[h,iQ,mH]
theorem HD(m:Mp)(v:Int):kQ (some .i64) (.int .i64 v) (mR m)=some (mR (yU m v)):=by
 induction m with
 |nil=>rfl
 |cons p m ih=>
  rw[mH,BS,ih]
  by_cases h:p.1=v<;>simp[h,yU,mH]
theorem yI(m:Mp):aY (mR m)=mR m:=by
 induction m with
 |nil=>rfl
 |cons p m ih=>simp only[mR,List.map_cons,aY] at ih ⊢;rw[ih];rfl
theorem PF(m:Mp):∀r,r∈mR m->G3 r=true:=by
 intro r hr;obtain⟨p,_,rfl⟩:=List.mem_map.1 hr
 rfl
theorem pM:∀(m:Mp) (ss:List Int),g9 (fZ (mR m) ss)=mR m
 |[],ss=>by cases ss<;>rfl
 |p ::m,[]=>by
  have:∀m:Mp,g9 (mR m)=mR m:=by
   intro m
   induction m with
   |nil=>rfl
   |cons p m ih=>simp only[mR,List.map_cons,g9] at ih ⊢;rw[ih]
  exact this (p ::m)
 |p ::m,s ::ss=>by
  have:=pM m ss;simp only[mR,List.map_cons,fZ,g9] at this ⊢;rw[this]
theorem w4{m:Mp}{v:Int}{x y:PV}(h:iR m v=some y):(iQ m v x).length=m.length:=by
 induction m with
 |nil=>simp[iR] at h
 |cons p m ih=>
  unfold iQ
  split
  ·rfl
  ·rename_i hne
   simp only[List.length_cons];rw[ih (by simpa [iR,hne] using h)]
theorem xF:∀{m:Mp} {ss:List Int} {v:Int} {x:PV},ss.length=m.length->ss.Nodup->iR m v=some x->∃s,s∈ss/\cQ (some .i64) (.int .i64 v) (fZ (mR m) ss)=some (x,s) /\
  ∀y:PV,dQ s (.p y) (fZ (mR m) ss)=some (fZ (mR (iQ m v y)) ss)
 |[],ss,v,x,_,_,h=>by simp[iR] at h
 |p ::m,[],v,x,h,_,_=>by simp at h
 |p ::m,s ::ss,v,x,hl,hn,h=>by
  unfold cQ dQ
  by_cases hp:p.1=v
  ·refine⟨s,by simp,?_,fun y=>?_⟩
   ·have:x=p.2:=by simpa [iR,hp,eq_comm] using h
    subst this;simp[mR,fZ,bT,c7,cW,hp]
   ·simp[mR,fZ,dG,iQ,hp]
  ·obtain⟨s',h1,h2,h3⟩:=xF (m:=m) (ss:=ss) (v:=v) (x:=x) (by simpa using hl) (List.nodup_cons.1 hn).2 (by simpa [iR,hp] using h)
   unfold cQ at h2;unfold dQ at h3;have hne:s≠s':=fun e=>(List.nodup_cons.1 hn).1 (e▸h1)
   refine⟨s',by simp[h1],?_,fun y=>?_⟩
   ·have:∀rs:List (List DV),bT (some .i64) (.int .i64 v) ([.p (.int .i64 p.1),.p p.2,.p (.int .i64 s)] ::rs)=bT (some .i64) (.int .i64 v) rs:=fun rs=>by simp[bT,c7,cW,hp]
    exact(this _).trans h2
   ·have e:∀rs:List (List DV),dG s' (.p y) ([.p (.int .i64 p.1),.p p.2,.p (.int .i64 s)] ::rs)=(dG s' (.p y) rs).map fun l=>[.p (.int .i64 p.1),.p p.2,.p (.int .i64 s)] ::l:=fun rs=>by
     simp only[dG,if_neg hne];cases dG s' (.p y) rs<;>rfl
    have h3:=h3 y
    show dG s' (.p y) ([.p (.int .i64 p.1),.p p.2,.p (.int .i64 s)] ::fZ (mR m) ss)=_
    rw[e,h3,iQ,if_neg hp]
    rfl
end Go.Proofs.YtnjphclbpgajpaaGreatDoor.Vc
namespace Go.Proofs.YtnjphclbpgajpaaGreatDoor.Ma
structure It where
 v:Int
 a:Int
 b:Int
 w:Int
def K2:It:=⟨0,0,0,0⟩
def It.lt(x y:It):Bool:=if (x.a !=y.a)=true then decide (x.a<y.a) else if (x.b !=y.b)=true then decide (x.b<y.b) else decide (x.w<y.w)
theorem It.lt_iff(x y:It):x.lt y=true↔x.a<y.a\/(x.a=y.a/\(x.b<y.b\/(x.b=y.b/\x.w<y.w))):=by
 unfold It.lt
 by_cases h1:x.a=y.a
 ·by_cases h2:x.b=y.b
  ·simp[h1,h2]
  ·simp[h1,h2]
 ·simp[h1]
def Le(x y:It):Prop:=¬(y.a<x.a\/(y.a=x.a/\(y.b<x.b\/(y.b=x.b/\y.w<x.w))))
theorem AJ{x y:It}:y.lt x=false↔Le x y:=by
 unfold Le;rw[<-It.lt_iff,Bool.not_eq_true]
theorem Le.of_lt{x y:It}(h:x.lt y=true):Le x y:=by
 rw[It.lt_iff] at h;unfold Le;omega
theorem Le.rfl'(x:It):Le x x:=by unfold Le;omega
theorem Le.trans{x y z:It}(h1:Le x y)(h2:Le y z):Le x z:=by unfold Le at *;omega
abbrev Im:=List (Int×Int)
def bM(m:Im)(v:Int):Option Int:=(m.find? fun p=>p.1 ==v).map (·.2)
def dE(m:Im)(v x:Int):Im:=match m with
 |[]=>[(v,x)]
 |p ::m=>if p.1=v then (p.1,x) ::m else p ::dE m v x
def jG(m:Im)(v:Int):Im:=match m with
 |[]=>[]
 |p ::m=>if p.1=v then m else p ::jG m v
theorem d5(p:Int×Int)(m:Im)(v:Int):bM (p ::m) v=if p.1=v then some p.2 else bM m v:=by
 by_cases h:p.1=v<;>simp[bM,h]
theorem mS(m:Im)(v x u:Int):bM (dE m v x) u=if v=u then some x else bM m u:=by
 induction m with
 |nil=>simp only[dE,d5]
 |cons p m ih=>
  unfold dE
  by_cases h:p.1=v
  ·rw[if_pos h,d5,d5]
   by_cases h2:v=u
   ·rw[if_pos (h.trans h2),if_pos h2]
   ·rw[if_neg (fun e=>h2 (h.symm.trans e)),if_neg h2,if_neg (fun e=>h2 (h.symm.trans e))]
  ·rw[if_neg h,d5,d5,ih]
   by_cases h2:p.1=u
   ·rw[if_pos h2,if_pos h2,if_neg (fun e=>h (h2.trans e.symm))]
   ·rw[if_neg h2,if_neg h2]
def Keys(m:Im):Prop:=(m.map (·.1)).Nodup
theorem EB(m:Im)(v x:Int):∀k,k∈(dE m v x).map (·.1)↔k=v\/k∈m.map (·.1):=by
 induction m with
 |nil=>intro k;simp[dE]
 |cons p m ih=>
  intro k;unfold dE
  split
  ·rename_i h;simp only[List.map_cons,List.mem_cons];rw[h];simp
  ·simp only[List.map_cons,List.mem_cons,ih]
   constructor
   ·rintro(h|h|h)
    ·exact .inr (.inl h)
    ·exact .inl h
    ·exact .inr (.inr h)
   ·rintro(h|h|h)
    ·exact .inr (.inl h)
    ·exact .inl h
    ·exact .inr (.inr h)
theorem Keys.upd{m:Im}(h:Keys m)(v x:Int):Keys (dE m v x):=by
 induction m with
 |nil=>simp[dE,Keys]
 |cons p m ih=>
  unfold Keys at h ih ⊢;rw[List.map_cons,List.nodup_cons] at h;unfold dE
  split
  ·rw[List.map_cons,List.nodup_cons];exact h
  ·rename_i hne
   rw[List.map_cons,List.nodup_cons];refine⟨fun hm=>?_,ih h.2⟩
   rcases(EB m v x _).1 hm with e|e
   ·exact hne e
   ·exact h.1 e
theorem ES{m:Im}{v x:Int}(h:bM m v=some x):v∈m.map (·.1):=by
 induction m with
 |nil=>simp[bM] at h
 |cons p m ih=>
  rw[d5] at h;rw[List.map_cons,List.mem_cons]
  split at h
  ·rename_i e;exact .inl e.symm
  ·exact .inr (ih h)
theorem CR{m:Im}{v:Int}(h:v∉m.map (·.1)):bM m v=none:=by
 cases e:bM m v with
 |none=>rfl
 |some x=>exact absurd (ES e) h
theorem DT{m:Im}(hk:Keys m)(v u:Int):bM (jG m v) u=if v=u then none else bM m u:=by
 induction m with
 |nil=>simp[jG,bM]
 |cons p m ih=>
  unfold Keys at hk ih;rw[List.map_cons,List.nodup_cons] at hk;unfold jG
  by_cases h:p.1=v
  ·rw[if_pos h]
   by_cases h2:v=u
   ·rw[if_pos h2];exact CR (by rw[<-h2, <-h];exact hk.1)
   ·rw[if_neg h2,d5,if_neg (fun e=>h2 (h.symm.trans e))]
  ·rw[if_neg h,d5,d5,ih hk.2]
   by_cases h2:p.1=u
   ·rw[if_pos h2,if_pos h2,if_neg (fun e=>h (h2.trans e.symm))]
   ·rw[if_neg h2,if_neg h2]
theorem EM(m:Im)(v:Int):∀k,k∈(jG m v).map (·.1)->k∈m.map (·.1):=by
 induction m with
 |nil=>intro k h;exact h
 |cons p m ih=>
  intro k h;unfold jG at h
  split at h
  ·exact List.mem_cons_of_mem _ h
  ·rw[List.map_cons,List.mem_cons] at h ⊢
   exact h.imp id (ih k)
theorem Keys.del{m:Im}(h:Keys m)(v:Int):Keys (jG m v):=by
 induction m with
 |nil=>simp[jG,Keys]
 |cons p m ih=>
  unfold Keys at h ih ⊢;rw[List.map_cons,List.nodup_cons] at h;unfold jG
  split
  ·exact h.2
  ·rw[List.map_cons,List.nodup_cons]
   exact⟨fun hm=>h.1 (EM m v _ hm),ih h.2⟩
structure Hp where
 l:List It
 ix:Im
def g(l:List It)(j:Nat):It:=l.getD j K2
theorem AL{l:List It}{j:Nat}(h:j<l.length):l[j]?=some (g l j):=by simp[g,h]
def Hp.swap(h:Hp)(i k:Nat):Hp:=⟨(h.l.set i (g h.l k)).set k (g h.l i),dE (dE h.ix (g h.l k).v i) (g h.l i).v k⟩
theorem aT(h:Hp)(i k:Nat):(h.swap i k).l.length=h.l.length:=by simp[Hp.swap]
theorem cP{h:Hp}{i k:Nat}(hi:i<h.l.length)(hk:k<h.l.length)(j:Nat):g (h.swap i k).l j=if j=k then g h.l i else if j=i then g h.l k else g h.l j:=by
 show (((h.l.set i (g h.l k)).set k (g h.l i)).getD j K2)=_
 rw[List.getD_eq_getElem?_getD,List.getElem?_set]
 by_cases h1:j=k
 ·subst h1;simp[hk]
 ·rw[if_neg (fun e=>h1 e.symm),List.getElem?_set,if_neg h1]
  by_cases h2:j=i
  ·subst h2;simp[hi]
  ·rw[if_neg (fun e=>h2 e.symm),if_neg h2];rfl
theorem CN{h:Hp}{i k:Nat}(hi:i<h.l.length)(hk:k<h.l.length):(h.swap i k).l.Perm h.l:=by
 have e1:g h.l k=h.l[k]:=by simp[g,hk]
 have e2:g h.l i=h.l[i]:=by simp[g,hi]
 show ((h.l.set i (g h.l k)).set k (g h.l i)).Perm h.l
 rw[e1,e2];exact List.set_set_perm hi hk
structure Hp.Ix (h:Hp):Prop where
 keys:Keys h.ix
 look:∀v x,bM h.ix v=some x↔∃n:Nat,x=n/\n<h.l.length/\(g h.l n).v=v
theorem Hp.Ix.inj{h:Hp}(hx:h.Ix){i k:Nat}(hi:i<h.l.length)(hk:k<h.l.length)(e:(g h.l i).v=(g h.l k).v):i=k:=by
 have h1:=(hx.look (g h.l k).v i).2 ⟨i,rfl,hi,e⟩;have h2:=(hx.look (g h.l k).v k).2 ⟨k,rfl,hk,rfl⟩;rw[h1] at h2
 exact_mod_cast Option.some.inj h2
theorem Hp.Ix.swap{h:Hp}(hx:h.Ix){i k:Nat}(hi:i<h.l.length)(hk:k<h.l.length):(h.swap i k).Ix:=by
 refine⟨(hx.keys.upd _ _).upd _ _,fun v x=>?_⟩
 show bM (dE (dE h.ix (g h.l k).v i) (g h.l i).v k) v=some x↔_
 rw[mS,mS,aT]
 constructor
 ·intro hq
  by_cases h1:(g h.l i).v=v
  ·rw[if_pos h1] at hq
   refine⟨k,by simpa [eq_comm] using hq,hk,?_⟩
   rw[cP hi hk,if_pos rfl];exact h1
  ·rw[if_neg h1] at hq
   by_cases h2:(g h.l k).v=v
   ·rw[if_pos h2] at hq
    refine⟨i,by simpa [eq_comm] using hq,hi,?_⟩
    have hik:i≠k:=fun e=>h1 (by rw[e];exact h2)
    rw[cP hi hk,if_neg hik,if_pos rfl];exact h2
   ·rw[if_neg h2] at hq
    obtain⟨n,e,hn,hv⟩:=(hx.look v x).1 hq;refine⟨n,e,hn,?_⟩;have hni:n≠i:=fun e=>h1 (by rw[<-e];exact hv)
    have hnk:n≠k:=fun e=>h2 (by rw[<-e];exact hv)
    rw[cP hi hk,if_neg hnk,if_neg hni];exact hv
 ·rintro⟨n,rfl,hn,hv⟩
  rw[cP hi hk] at hv
  by_cases h1:n=k
  ·rw[if_pos h1] at hv
   rw[if_pos hv,h1]
  ·rw[if_neg h1] at hv
   by_cases h2:n=i
   ·rw[if_pos h2] at hv
    have hne:(g h.l i).v≠v:=fun e=>h1 (h2.trans (hx.inj hi hk (e.trans hv.symm)))
    rw[if_neg hne,if_pos hv,h2]
   ·rw[if_neg h2] at hv
    have hne1:(g h.l i).v≠v:=fun e=>h2 (hx.inj hn hi (hv.trans e.symm))
    have hne2:(g h.l k).v≠v:=fun e=>h1 (hx.inj hn hk (hv.trans e.symm))
    rw[if_neg hne1,if_neg hne2];exact(hx.look v n).2 ⟨n,rfl,hn,hv⟩
def JJ(l:List It):Prop:=∀j,0<j->j<l.length->Le (g l ((j-1)/2)) (g l j)
def ED(l:List It)(i:Nat):Prop:=(∀j,0<j->j<l.length->j≠i->Le (g l ((j-1)/2)) (g l j))/\(0<i->∀c,0<c->c<l.length->(c-1)/2=i->Le (g l ((i-1)/2)) (g l c))
def MA(l:List It)(i:Nat):Prop:=(∀j,0<j->j<l.length->(j-1)/2≠i->Le (g l ((j-1)/2)) (g l j))/\(0<i->∀c,0<c->c<l.length->(c-1)/2=i->Le (g l ((i-1)/2)) (g l c))
def Hp.rise(h:Hp)(i:Nat):Hp:=if 0<i/\(g h.l i).lt (g h.l ((i-1)/2))=true then (h.swap i ((i-1)/2)).rise ((i-1)/2) else h
termination_by i
decreasing_by omega
structure Same (h h':Hp):Prop where
 perm:h'.l.Perm h.l
 ix:h.Ix->h'.Ix
theorem Same.refl(h:Hp):Same h h:=⟨List.Perm.refl _,id⟩
theorem Same.trans{a b c:Hp}(h1:Same a b)(h2:Same b c):Same a c:=⟨h2.perm.trans h1.perm,fun h=>h2.ix (h1.ix h)⟩
theorem Same.swap{h:Hp}{i k:Nat}(hi:i<h.l.length)(hk:k<h.l.length):Same h (h.swap i k):=⟨CN hi hk,fun hx=>hx.swap hi hk⟩
theorem gN(h:Hp)(i:Nat)(hi:i<h.l.length):Same h (h.rise i):=by
 fun_induction Hp.rise h i with
 |case1 h i hc ih=>
  have hk:(i-1)/2<h.l.length:=by omega
  exact(Same.swap hi hk).trans (ih (by rw[aT];exact hk))
 |case2 h i hc=>exact Same.refl _
theorem sO(h:Hp)(i:Nat)(hi:i<h.l.length)(hu:ED h.l i):JJ (h.rise i).l:=by
 fun_induction Hp.rise h i with
 |case1 h i hc ih=>
  have hk:(i-1)/2<h.l.length:=by omega
  refine ih (by rw[aT];exact hk) ⟨fun j h0 hj hne=>?_,fun hk0 c h0 hj hp=>?_⟩
  ·rw[aT] at hj
   rw[cP hi hk,cP hi hk,if_neg hne]
   by_cases h1:j=i
   ·subst h1
    rw[if_pos rfl,if_pos rfl];exact Le.of_lt hc.2
   ·rw[if_neg h1]
    by_cases h2:(j-1)/2=(i-1)/2
    ·rw[if_pos h2]
     have:=hu.1 j h0 hj h1;rw[h2] at this;exact(Le.of_lt hc.2).trans this
    ·rw[if_neg h2]
     by_cases h3:(j-1)/2=i
     ·rw[if_pos h3]
      exact hu.2 hc.1 j h0 hj h3
     ·rw[if_neg h3]
      exact hu.1 j h0 hj h1
  ·rw[aT] at hj
   have hck:c≠(i-1)/2:=by omega
   rw[cP hi hk,cP hi hk,if_neg hck,if_neg (show ((i-1)/2-1)/2≠(i-1)/2 by omega),if_neg (show ((i-1)/2-1)/2≠i by omega)]
   have hpp:=hu.1 ((i-1)/2) hk0 hk (by omega)
   by_cases h1:c=i
   ·rw[if_pos h1];exact hpp
   ·rw[if_neg h1]
    have:=hu.1 c h0 hj h1;rw[hp] at this;exact hpp.trans this
 |case2 h i hc=>
  intro j h0 hj
  by_cases h1:j=i
  ·subst h1
   have:(g h.l j).lt (g h.l ((j-1)/2))=false:=by
    cases e:(g h.l j).lt (g h.l ((j-1)/2)) with
    |false=>rfl
    |true=>exact absurd ⟨h0,e⟩ hc
   exact AJ.1 this
  ·exact hu.1 j h0 hj h1
def low(h:Hp)(i:Nat):Nat:=if 2*i+1+1<h.l.length/\(g h.l (2*i+1+1)).lt (g h.l (2*i+1))=true then 2*i+1+1 else 2*i+1
theorem yP(h:Hp)(i:Nat):low h i=2*i+1\/low h i=2*i+2:=by unfold low;split<;>omega
def Hp.sink(h:Hp)(i:Nat):Hp:=if low h i<h.l.length/\(g h.l (low h i)).lt (g h.l i)=true then (h.swap i (low h i)).sink (low h i) else h
termination_by h.l.length-i
decreasing_by
 rw[aT];rcases yP h i with e|e<;>omega
theorem CE(h:Hp)(i:Nat)(hi:i<h.l.length):Same h (h.sink i):=by
 fun_induction Hp.sink h i with
 |case1 h i hc ih=>exact(Same.swap hi hc.1).trans (ih (by rw[aT];exact hc.1))
 |case2 h i hc=>exact Same.refl _
theorem EQ{h:Hp}{i c:Nat}(h0:0<c)(hc:c<h.l.length)(hp:(c-1)/2=i):Le (g h.l (low h i)) (g h.l c):=by
 unfold low;have:c=2*i+1\/c=2*i+1+1:=by omega
 rcases this with rfl|rfl
 ·split
  ·rename_i hq;exact Le.of_lt hq.2
  ·exact Le.rfl' _
 ·split
  ·exact Le.rfl' _
  ·rename_i hq
   refine AJ.1 ?_
   cases e:(g h.l (2*i+1+1)).lt (g h.l (2*i+1)) with
   |false=>rfl
   |true=>exact absurd ⟨hc,e⟩ hq
theorem sF(h:Hp)(i:Nat)(hi:i<h.l.length)(hd:MA h.l i):JJ (h.sink i).l:=by
 fun_induction Hp.sink h i with
 |case1 h i hc ih=>
  have hl:=yP h i;have hk:=hc.1;have hlow:∀c,0<c->c<h.l.length->(c-1)/2=i->Le (g h.l (low h i)) (g h.l c):=fun c h0 hj hp=>EQ h0 hj hp
  have hlt:=hc.2;generalize low h i=k at *;refine ih (by rw[aT];exact hk) ⟨fun j h0 hj hne=>?_,fun _ c h0 hj hp=>?_⟩
  ·rw[aT] at hj
   rw[cP hi hk,cP hi hk,if_neg hne]
   by_cases h2:j=k
   ·subst h2
    rw[if_pos rfl,if_pos (show (j-1)/2=i by omega)]
    exact Le.of_lt hlt
   ·rw[if_neg h2]
    by_cases h1:j=i
    ·subst h1
     rw[if_pos rfl,if_neg (show (j-1)/2≠j by omega)]
     exact hd.2 h0 k (by omega) hk (by omega)
    ·rw[if_neg h1]
     by_cases h3:(j-1)/2=i
     ·rw[if_pos h3]
      exact hlow j h0 hj h3
     ·rw[if_neg h3]
      exact hd.1 j h0 hj h3
  ·rw[aT] at hj
   rw[cP hi hk,cP hi hk,if_neg (show (k-1)/2≠k by omega),if_pos (show (k-1)/2=i by omega),if_neg (show c≠k by omega),if_neg (show c≠i by omega)]
   have:=hd.1 c h0 hj (by omega)
   rw[hp] at this;exact this
 |case2 h i hc=>
  intro j h0 hj
  by_cases h1:(j-1)/2=i
  ·have hl:=yP h i
   have hle:=EQ h0 hj h1
   have h2:low h i<h.l.length:=by
    unfold low
    split
    ·rename_i hq;exact hq.1
    ·omega
   have:(g h.l (low h i)).lt (g h.l i)=false:=by
    cases e:(g h.l (low h i)).lt (g h.l i) with
    |false=>rfl
    |true=>exact absurd ⟨h2,e⟩ hc
   rw[h1];exact(AJ.1 this).trans hle
  ·exact hd.1 j h0 hj h1
theorem xU{l:List It}(h:JJ l):∀(j:Nat),j<l.length->Le (g l 0) (g l j):=by
 intro j
 induction j using Nat.strongRecOn with
 |ind j ih=>
  intro hj
  by_cases h0:j=0
  ·subst h0;exact Le.rfl' _
  ·exact(ih ((j-1)/2) (by omega) (by omega)).trans (h j (by omega) hj)
structure Hp.Ok (h:Hp):Prop where
 ix:h.Ix
 heap:JJ h.l
def Hp.pop(h:Hp)(v:Int):Hp:=⟨h.l.take (h.l.length-1),jG h.ix v⟩
def Hp.fix(h:Hp)(i:Nat):Hp:=if i<h.l.length then (h.rise i).sink i else h
def Hp.out(h:Hp)(i:Nat)(v:Int):Hp:=((h.swap i (h.l.length-1)).pop v).fix i
theorem xO{l:List It}{n j:Nat}(h:j<n):g (l.take n) j=g l j:=by
 simp only[g,List.getD_eq_getElem?_getD];rw[List.getElem?_take,if_pos h]
theorem EY{h:Hp}(hx:h.Ix)(hn:0<h.l.length):(h.pop (g h.l (h.l.length-1)).v).Ix:=by
 have hl:(h.pop (g h.l (h.l.length-1)).v).l.length=h.l.length-1:=by simp[Hp.pop]
 refine⟨hx.keys.del _,fun v x=>?_⟩
 show bM (jG h.ix _) v=some x↔_
 rw[DT hx.keys,hl]
 constructor
 ·intro hq
  split at hq
  ·cases hq
  ·rename_i hne
   obtain⟨n,e,hn',hv⟩:=(hx.look v x).1 hq;have hn2:n≠h.l.length-1:=fun e=>hne (by rw[<-e];exact hv)
   refine⟨n,e,by omega,?_⟩
   show (g (h.l.take (h.l.length-1)) n).v=v
   rw[xO (by omega)];exact hv
 ·rintro⟨n,rfl,hn',hv⟩
  have hv:(g h.l n).v=v:=by
   have:(g (h.l.take (h.l.length-1)) n).v=v:=hv
   rwa [xO (by omega)] at this
  rw[if_neg (fun e=>by have:=hx.inj (show n<h.l.length by omega) (show h.l.length-1<h.l.length by omega) (hv.trans e.symm);omega)]
  exact(hx.look v n).2 ⟨n,rfl,by omega,hv⟩
theorem wQ{h:Hp}(hx:h.Ix){i:Nat}(hi:i<h.l.length):((h.swap i (h.l.length-1)).pop (g h.l i).v).Ix:=by
 have hlast:h.l.length-1<h.l.length:=by omega
 have hp:=EY (hx.swap hi hlast) (by rw[aT];omega)
 rw[aT,cP hi hlast,if_pos rfl] at hp;exact hp
theorem j2{h h':Hp}(s:Same h h'):h'.l.length=h.l.length:=s.perm.length_eq
theorem NS{h:Hp}(hk:h.Ok){i:Nat}(hi:i<h.l.length):(h.out i (g h.l i).v).Ok/\(g h.l i ::(h.out i (g h.l i).v).l).Perm h.l:=by
 have hn:0<h.l.length:=by omega
 have hlast:h.l.length-1<h.l.length:=by omega
 have hs:=Same.swap hi hlast;have hgl:g (h.swap i (h.l.length-1)).l (h.l.length-1)=g h.l i:=by rw[cP hi hlast,if_pos rfl]
 have hx1:=hs.ix hk.ix;have hp:=EY hx1 (by rw[aT];exact hn)
 rw[aT,hgl] at hp;have hlen:((h.swap i (h.l.length-1)).pop (g h.l i).v).l.length=h.l.length-1:=by simp[Hp.pop,aT]
 have hg:∀j,j<h.l.length-1->g ((h.swap i (h.l.length-1)).pop (g h.l i).v).l j=if j=i then g h.l (h.l.length-1) else g h.l j:=fun j hj=>by
  show g ((h.swap i (h.l.length-1)).l.take ((h.swap i (h.l.length-1)).l.length-1)) j=_
  rw[aT,xO hj,cP hi hlast,if_neg (by omega)]
 have hperm:(g h.l i ::((h.swap i (h.l.length-1)).pop (g h.l i).v).l).Perm h.l:=by
  refine List.Perm.trans ?_ hs.perm;have hne:(h.swap i (h.l.length-1)).l≠[]:=fun e=>by have:=aT h i (h.l.length-1);rw[e] at this;simp at this;omega
  have e1:(h.swap i (h.l.length-1)).l.dropLast=((h.swap i (h.l.length-1)).pop (g h.l i).v).l:=by rw[List.dropLast_eq_take];rfl
  have e2:(h.swap i (h.l.length-1)).l.getLast hne=g h.l i:=by
   rw[List.getLast_eq_getElem];have:(h.swap i (h.l.length-1)).l.length-1=h.l.length-1:=by rw[aT]
   have hq:=AL (l:=(h.swap i (h.l.length-1)).l) (j:=h.l.length-1) (by rw[aT];exact hlast)
   rw[hgl] at hq;have:=bH.1 hq;obtain⟨_,h2⟩:=this;simp only[aT];exact h2
  have e3:=List.dropLast_concat_getLast hne;rw[e1,e2] at e3;rw[<-e3];exact(List.perm_append_singleton _ _).symm
 generalize hq:(h.swap i (h.l.length-1)).pop (g h.l i).v=q at *;have hout:h.out i (g h.l i).v=q.fix i:=by unfold Hp.out;rw[hq]
 rw[hout];unfold Hp.fix
 by_cases hiq:i<q.l.length
 ·rw[if_pos hiq]
  have hr:=gN q i hiq;have hs2:=CE (q.rise i) i (by rw[j2 hr];exact hiq)
  have hall:=hr.trans hs2;refine⟨⟨hall.ix hp,?_⟩,(List.Perm.cons _ hall.perm).trans hperm⟩;have hi2:i<h.l.length-1:=by omega
  by_cases hc:0<i/\(g q.l i).lt (g q.l ((i-1)/2))=true
  ·have hup:ED q.l i:=by
    refine⟨fun j h0 hj hne=>?_,fun _ c h0 hj hpp=>?_⟩
    ·rw[hlen] at hj
     rw[hg _ (by omega),hg _ hj,if_neg hne]
     by_cases h1:(j-1)/2=i
     ·rw[if_pos h1]
      have h2:=Le.of_lt hc.2;rw[hg _ hi2,hg _ (by omega),if_pos rfl,if_neg (by omega)] at h2
      have h3:=hk.heap i hc.1 hi;have h4:=hk.heap j h0 (by omega)
      rw[h1] at h4;exact h2.trans (h3.trans h4)
     ·rw[if_neg h1];exact hk.heap j h0 (by omega)
    ·rw[hlen] at hj
     rw[hg _ (by omega),hg _ hj,if_neg (by omega),if_neg (by omega)]
     have h3:=hk.heap i hc.1 hi;have h4:=hk.heap c h0 (by omega)
     rw[hpp] at h4;exact h3.trans h4
   have hh:=sO q i hiq hup;refine sF _ i (by rw[j2 hr];exact hiq) ⟨fun j h0 hj _=>hh j h0 hj,fun h0 c hc0 hcl hcp=>?_⟩
   have h1:=hh i h0 (by rw[j2 hr];exact hiq)
   have h2:=hh c hc0 hcl;rw[hcp] at h2;exact h1.trans h2
  ·have er:q.rise i=q:=by rw[Hp.rise,if_neg hc]
   rw[er];refine sF _ i hiq ⟨fun j h0 hj hne=>?_,fun h0 c hc0 hcl hcp=>?_⟩
   ·rw[hlen] at hj
    by_cases h1:j=i
    ·subst h1
     have:(g q.l j).lt (g q.l ((j-1)/2))=false:=by
      cases e:(g q.l j).lt (g q.l ((j-1)/2)) with
      |false=>rfl
      |true=>exact absurd ⟨h0,e⟩ hc
     exact AJ.1 this
    ·rw[hg _ (by omega),hg _ hj,if_neg hne,if_neg h1]
     exact hk.heap j h0 (by omega)
   ·rw[hlen] at hcl
    rw[hg _ (by omega),hg _ hcl,if_neg (by omega),if_neg (by omega)]
    have h3:=hk.heap i h0 hi;have h4:=hk.heap c hc0 (by omega)
    rw[hcp] at h4;exact h3.trans h4
 ·rw[if_neg hiq]
  have hi3:i=h.l.length-1:=by omega
  refine⟨⟨hp,fun j h0 hj=>?_⟩,hperm⟩
  rw[hlen] at hj;rw[hg _ (by omega),hg _ hj,if_neg (by omega),if_neg (by omega)]
  exact hk.heap j h0 (by omega)
def Hp.push(h:Hp)(x:It):Hp:=⟨h.l++[x],dE h.ix x.v h.l.length⟩
theorem vB{h:Hp}(hx:h.Ix){x:It}(hv:bM h.ix x.v=none):(h.push x).Ix:=by
 have hlen:(h.push x).l.length=h.l.length+1:=by simp[Hp.push]
 have hg:∀j,j<h.l.length->g (h.push x).l j=g h.l j:=fun j hj=>by
  show (h.l++[x]).getD j K2=h.l.getD j K2
  rw[List.getD_eq_getElem?_getD,List.getD_eq_getElem?_getD,List.getElem?_append_left hj]
 have hgx:g (h.push x).l h.l.length=x:=by
  show (h.l++[x]).getD h.l.length K2=x
  rw[List.getD_eq_getElem?_getD,List.getElem?_append_right (Nat.le_refl _)];simp
 refine⟨hx.keys.upd _ _,fun v y=>?_⟩
 show bM (dE h.ix x.v h.l.length) v=some y↔_
 rw[mS,hlen]
 constructor
 ·intro hq
  split at hq
  ·rename_i e
   exact⟨h.l.length,by simpa [eq_comm] using hq,by omega,by rw[hgx];exact e⟩
  ·obtain⟨n,e,hn,hv'⟩:=(hx.look v y).1 hq
   exact⟨n,e,by omega,by rw[hg _ hn];exact hv'⟩
 ·rintro⟨n,rfl,hn,hv'⟩
  by_cases h1:n=h.l.length
  ·subst h1
   rw[hgx] at hv';rw[if_pos hv']
  ·rw[hg _ (by omega)] at hv'
   have:=(hx.look v n).2 ⟨n,rfl,by omega,hv'⟩
   rw[if_neg (fun e=>by rw[<-e,hv] at this;cases this)]
   exact this
theorem AA{h:Hp}(hk:h.Ok){x:It}(hv:bM h.ix x.v=none):((h.push x).rise h.l.length).Ok/\((h.push x).rise h.l.length).l.Perm (h.l++[x]):=by
 have hlen:(h.push x).l.length=h.l.length+1:=by simp[Hp.push]
 have hg:∀j,j<h.l.length->g (h.push x).l j=g h.l j:=fun j hj=>by
  show (h.l++[x]).getD j K2=h.l.getD j K2
  rw[List.getD_eq_getElem?_getD,List.getD_eq_getElem?_getD,List.getElem?_append_left hj]
 have hgx:g (h.push x).l h.l.length=x:=by
  show (h.l++[x]).getD h.l.length K2=x
  rw[List.getD_eq_getElem?_getD,List.getElem?_append_right (Nat.le_refl _)];simp
 have hx:(h.push x).Ix:=vB hk.ix hv;have hi:h.l.length<(h.push x).l.length:=by omega
 have hs:=gN (h.push x) h.l.length hi;refine⟨⟨hs.ix hx,sO _ _ hi ⟨fun j h0 hj hne=>?_,fun h0 c hc0 hcl hcp=>?_⟩⟩,hs.perm⟩
 ·rw[hg _ (by omega),hg _ (by omega)]
  exact hk.heap j h0 (by omega)
 ·omega
theorem J1{h:Hp}(hx:h.Ix){v x:Int}(e:bM h.ix v=some x):∃n:Nat,x=n/\n<h.l.length/\(g h.l n).v=v:=(hx.look v x).1 e
def hp0:Hp:=⟨[],[]⟩
theorem hp0_ok:hp0.Ok:=⟨⟨by simp[Keys,hp0],fun v x=>by simp[hp0,bM]⟩,fun j h0 hj=>absurd hj (Nat.not_lt_zero _)⟩
end Go.Proofs.YtnjphclbpgajpaaGreatDoor.Ma
namespace Go.Proofs.YtnjphclbpgajpaaGreatDoor.Vc
class Is (b v:Bool):Prop where is:b=v
instance:Is true true:=⟨rfl⟩
instance:Is false false:=⟨rfl⟩
instance {x:Int}:Is (x ==x) true:=⟨by simp⟩
instance {x:Bool}:Is (x ==x) true:=⟨by simp⟩
instance {a b:Bool}[h:Is a true][k:Is b true]:Is (a&&b) true:=⟨by rw[h.is,k.is];rfl⟩
instance {a b:Bool}[h:Is a false]:Is (a&&b) false:=⟨by rw[h.is];rfl⟩
instance {a b:Bool}[h:Is a true][k:Is b false]:Is (a&&b) false:=⟨by rw[h.is,k.is];rfl⟩
instance {a:Bool}[h:Is a true]:Is (!a) false:=⟨by rw[h.is];rfl⟩
instance {a:Bool}[h:Is a false]:Is (!a) true:=⟨by rw[h.is];rfl⟩
instance {a b v:Bool}[h:Is a v]:Is (if true=true then a else b) v:=⟨by rw[if_pos rfl];exact h.is⟩
instance {a b v:Bool}[h:Is b v]:Is (if false=true then a else b) v:=⟨by rw[if_neg (by decide)];exact h.is⟩
instance {a b:Int}[h:Is (a ==b) true]:Is (a !=b) false:=⟨by unfold bne;rw[h.is];rfl⟩
instance {a b:Int}[h:Is (a ==b) false]:Is (a !=b) true:=⟨by unfold bne;rw[h.is];rfl⟩
instance {a:Bool}[h:Is a true]:No (a=false):=⟨by rw[h.is];decide⟩
instance {a:Bool}[h:Is a false]:No (a=true):=⟨by rw[h.is];decide⟩
instance {a:Bool}[h:Is a true]:No (a = !true):=⟨by rw[h.is];decide⟩
instance {a:Bool}[h:Is a false]:No (a = !false):=⟨by rw[h.is];decide⟩
instance:Is ((0:Int) ==1) false:=⟨by decide⟩
instance:Is ((0:Int) ==2) false:=⟨by decide⟩
instance:Is ((0:Int) ==3) false:=⟨by decide⟩
instance:Is ((0:Int) ==4) false:=⟨by decide⟩
instance:Is ((0:Int) ==5) false:=⟨by decide⟩
instance:Is ((1:Int) ==0) false:=⟨by decide⟩
instance:Is ((1:Int) ==2) false:=⟨by decide⟩
instance:Is ((1:Int) ==3) false:=⟨by decide⟩
instance:Is ((1:Int) ==4) false:=⟨by decide⟩
instance:Is ((1:Int) ==5) false:=⟨by decide⟩
instance:Is ((2:Int) ==0) false:=⟨by decide⟩
instance:Is ((2:Int) ==1) false:=⟨by decide⟩
instance:Is ((2:Int) ==3) false:=⟨by decide⟩
instance:Is ((2:Int) ==4) false:=⟨by decide⟩
instance:Is ((2:Int) ==5) false:=⟨by decide⟩
instance:Is ((3:Int) ==0) false:=⟨by decide⟩
instance:Is ((3:Int) ==1) false:=⟨by decide⟩
instance:Is ((3:Int) ==2) false:=⟨by decide⟩
instance:Is ((3:Int) ==4) false:=⟨by decide⟩
instance:Is ((3:Int) ==5) false:=⟨by decide⟩
instance:Is ((4:Int) ==0) false:=⟨by decide⟩
instance:Is ((4:Int) ==1) false:=⟨by decide⟩
instance:Is ((4:Int) ==2) false:=⟨by decide⟩
instance:Is ((4:Int) ==3) false:=⟨by decide⟩
instance:Is ((4:Int) ==5) false:=⟨by decide⟩
instance:Is ((5:Int) ==0) false:=⟨by decide⟩
instance:Is ((5:Int) ==1) false:=⟨by decide⟩
instance:Is ((5:Int) ==2) false:=⟨by decide⟩
instance:Is ((5:Int) ==3) false:=⟨by decide⟩
instance:Is ((5:Int) ==4) false:=⟨by decide⟩
open Go.RowKit Ma
def dU(x:It):PV:=.agg [.int .i64 x.v,.int .i64 x.a,.int .i64 x.b,.int .i64 x.w]
def mI(m:Im):Mp:=m.map fun p=>(p.1,.int .i64 p.2)
theorem tP(m:Im)(v:Int):iR (mI m) v=(bM m v).map (.int .i64):=by
 induction m with
 |nil=>rfl
 |cons p m ih=>
  by_cases h:p.1=v
  ·simp[iR,bM,mI,h]
  ·simpa [iR,bM,mI,h] using ih
theorem y3(m:Im)(v x:Int):iQ (mI m) v (.int .i64 x)=mI (dE m v x):=by
 induction m with
 |nil=>rfl
 |cons p m ih=>
  show iQ ((p.1,.int .i64 p.2) ::mI m) v _=_
  by_cases h:p.1=v
  ·simp[iQ,dE,mI,h]
  ·simp only[iQ,dE,if_neg h,ih];rfl
theorem LF(m:Im)(v:Int):yU (mI m) v=mI (jG m v):=by
 induction m with
 |nil=>rfl
 |cons p m ih=>
  show yU ((p.1,.int .i64 p.2) ::mI m) v=_
  by_cases h:p.1=v
  ·simp[yU,jG,mI,h]
  ·simp only[yU,jG,if_neg h,ih];rfl
def kC(room clock:Int)(h:Hp)(old:Bool):Box:=⟨true,4,[[.p (.int .i64 room),.ob (.sl 4 false (dJ (h.l.map dU))),.ob (.mp (mK (mI h.ix)) (mV (mI h.ix))),.p (.int .i64 clock)]],old⟩
theorem bW(room clock:Int)(h:Hp)(old:Bool):kC room clock h old=⟨true,4,[[.p (.int .i64 room),.ob (.sl 4 false (dJ (h.l.map dU))),.ob (.mp (mK (mI h.ix)) (mV (mI h.ix))),.p (.int .i64 clock)]],old⟩:=rfl
def HB(room:Int)(old:Bool):Box:=⟨true,4,[[.p (.int .i64 room),.p (.sl 4 true []),.ob (.mp [] []),.p (.int .i64 0)]],old⟩
theorem eP(room:Int)(old:Bool):HB room old=⟨true,4,[[.p (.int .i64 room),.p (.sl 4 true []),.ob (.mp [] []),.p (.int .i64 0)]],old⟩:=rfl
theorem VP{bs bs':List (Option Box)}{r r':DV}(h:bs=bs')(h':r=r'):(bs,r)=(bs',r'):=by rw[h,h']
theorem fM(l:List It):(dJ (l.map dU)).length=l.length:=by rw[xV];simp
def y6(x:It):List DV:=[.p (.int .i64 x.v),.p (.int .i64 x.a),.p (.int .i64 x.b),.p (.int .i64 x.w)]
theorem it_row{l:List It}{i:Nat}(h:i<l.length):(dO (dJ (l.map dU)))[0+((i:Nat):Int).toNat]?=some (y6 (g l i)):=by
 rw[eN,M6,Nat.zero_add,Int.toNat_natCast];simp[g,h,dU,aK,y6]
theorem qL{l:List It}{i:Nat}(h:i<l.length):((i:Nat):Int)<((dJ (l.map dU)).length:Int):=by
 rw[fM];omega
theorem yO(l:List It):PQ (dO (dJ (l.map dU))) (dJ (l.map dU)).length (dJ (l.map dU)):=⟨jT _,(cA _).symm⟩
theorem v6(l:List It)(i:Nat)(x:It):aJ (dO (dJ (l.map dU))) i (y6 x)=dO (dJ ((l.set i x).map dU)):=by
 rw[eN,eN,show y6 x=(aK (dU x)).map DV.p from rfl,HO,List.map_set]
theorem dY{b:Bool}{A:Prop}(h:b=true)(k:A):testB.match_1 (fun _=>Prop) b (fun _=>A) (fun _=>False):=by subst h;exact k
theorem aA(j i:Nat)(l:List It)(x:It):cS j (aJ (dO (dJ (l.map dU))) i [.p (.int .i64 x.v),.p (.int .i64 x.a),.p (.int .i64 x.b),.p (.int .i64 x.w)])=true:=by
 have:=v6 l i x;unfold y6 at this;rw[this];exact a6 j _
theorem aE(n:Nat)(l:List PV):zC n (dO (dJ l))=true:=by rw[eN];exact HV n l
theorem E8(l:List It)(x:It):aY (dO (dJ (l.map dU)))++[y6 x]=dO (dJ ((l++[x]).map dU)):=by
 rw[eN,eN,yZ,List.map_append, <-BV];rfl
theorem a8(j:Nat)(l:List It)(x:It):cS j (aY (dO (dJ (l.map dU)))++[[.p (.int .i64 x.v),.p (.int .i64 x.a),.p (.int .i64 x.b),.p (.int .i64 x.w)]])=true:=by
 have:=E8 l x;unfold y6 at this;rw[this];exact a6 j _
theorem OI(room clock:Int)(h:Hp):aX Tryz.prog 58 [.addr 0 4 0 0] [kC room clock h true] [some (kC room clock h false)] (.p (.int .i64 h.l.length)):=by
 have hl:((dJ (h.l.map dU)).length:Int)=h.l.length:=by rw[fM]
 rw[bW,bW];refine Fn.runO Y9 rfl rfl rfl ?_;generalize Tryz.prog=P at *
 (repeat' ((conv=>whnf);first|exact trivial|with_reducible refine zX ?_|refine⟨rfl,?_⟩|refine⟨_,rfl,?_⟩|with_reducible refine zP ?_|with_reducible refine zL ?_|refine⟨fun _=>?_,fun _=>?_⟩|refine zO ?_|refine zn ?_|refine zb rfl ?_|refine zX ?_|refine zo rfl ?_|refine zs ?_|intro _|((with_reducible show testB.match_1 (fun _=>Prop) _ _ _);refine dY (by (first|exact rfl|(simp only[aV,aL,aM,bC,aH,aQ,List.all_cons,List.all_nil,aG,a6,a7,aB,aC,aA,bA,aE,a8,Bool.or_true,Bool.true_and,Bool.and_true];done)|(simp only[aV,aL,aM,bC,aH,aQ,List.all_cons,List.all_nil,aG,a6,a7,aB,aC,aA,bA,aE,a8,Bool.or_true,Bool.true_and,Bool.and_true];exact rfl))) ?_)));all_goals (try (conv=>whnf))
 all_goals exact VP rfl (congrArg (fun z=>DV.p (.int .i64 z)) hl)
theorem JY(room:Int):aX Tryz.prog 58 [.addr 0 4 0 0] [HB room true] [some (HB room false)] (.p (.int .i64 0)):=by
 rw[eP,eP];refine Fn.runO Y9 rfl rfl rfl ?_;generalize Tryz.prog=P at *
 (repeat' ((conv=>whnf);first|exact trivial|with_reducible refine zX ?_|refine⟨rfl,?_⟩|refine⟨_,rfl,?_⟩|with_reducible refine zP ?_|with_reducible refine zL ?_|refine⟨fun _=>?_,fun _=>?_⟩|refine zO ?_|refine zn ?_|refine zb rfl ?_|refine zX ?_|refine zo rfl ?_|refine zs ?_|intro _|((with_reducible show testB.match_1 (fun _=>Prop) _ _ _);refine dY (by (first|exact rfl|(simp only[aV,aL,aM,bC,aH,aQ,List.all_cons,List.all_nil,aG,a6,a7,aB,aC,aA,bA,aE,a8,Bool.or_true,Bool.true_and,Bool.and_true];done)|(simp only[aV,aL,aM,bC,aH,aQ,List.all_cons,List.all_nil,aG,a6,a7,aB,aC,aA,bA,aE,a8,Bool.or_true,Bool.true_and,Bool.and_true];exact rfl))) ?_)));all_goals (try (conv=>whnf))
 all_goals rfl
theorem JR(room clock:Int)(h:Hp)(i k:Nat)(hi:i<h.l.length)(hk:k<h.l.length) :
  aX Tryz.prog 140 [.addr 0 4 0 0,.p (.int .i64 i),.p (.int .i64 k)] [kC room clock h true] [some (kC room clock h false)] (.p (.bool ((g h.l i).lt (g h.l k)))):=by
 have r1:=it_row hi;have r2:=it_row hk;have l1:=qL hi;have l2:=qL hk;have hq:=yO h.l;rw[bW,bW];simp only[y6] at r1 r2;clear hi hk;unfold It.lt
 cases e1:((g h.l i).a !=(g h.l k).a) with
 |true=>
  rw[if_pos rfl];refine Fn.runO KF rfl rfl rfl ?_;generalize Tryz.prog=P at *
  (repeat' ((conv=>whnf);first|exact trivial|with_reducible refine zX ?_|refine⟨rfl,?_⟩|refine⟨_,rfl,?_⟩|with_reducible refine zP ?_|with_reducible refine zL ?_|refine⟨fun _=>?_,fun _=>?_⟩|refine zO ?_|refine zn ?_|refine zb rfl ?_|refine zX ?_|refine zo rfl ?_|refine zs ?_|intro _|((with_reducible show testB.match_1 (fun _=>Prop) _ _ _);refine dY (by (first|exact rfl|(simp only[aV,aL,aM,bC,aH,aQ,List.all_cons,List.all_nil,aG,a6,a7,aB,aC,aA,bA,aE,a8,Bool.or_true,Bool.true_and,Bool.and_true];done)|(simp only[aV,aL,aM,bC,aH,aQ,List.all_cons,List.all_nil,aG,a6,a7,aB,aC,aA,bA,aE,a8,Bool.or_true,Bool.true_and,Bool.and_true];exact rfl))) ?_)));all_goals (try (conv=>whnf))
  all_goals rfl
 |false=>
  rw[if_neg Bool.false_ne_true]
  cases e2:((g h.l i).b !=(g h.l k).b) with
  |true=>
   rw[if_pos rfl];refine Fn.runO KF rfl rfl rfl ?_;generalize Tryz.prog=P at *
   (repeat' ((conv=>whnf);first|exact trivial|with_reducible refine zX ?_|refine⟨rfl,?_⟩|refine⟨_,rfl,?_⟩|with_reducible refine zP ?_|with_reducible refine zL ?_|refine⟨fun _=>?_,fun _=>?_⟩|refine zO ?_|refine zn ?_|refine zb rfl ?_|refine zX ?_|refine zo rfl ?_|refine zs ?_|intro _|((with_reducible show testB.match_1 (fun _=>Prop) _ _ _);refine dY (by (first|exact rfl|(simp only[aV,aL,aM,bC,aH,aQ,List.all_cons,List.all_nil,aG,a6,a7,aB,aC,aA,bA,aE,a8,Bool.or_true,Bool.true_and,Bool.and_true];done)|(simp only[aV,aL,aM,bC,aH,aQ,List.all_cons,List.all_nil,aG,a6,a7,aB,aC,aA,bA,aE,a8,Bool.or_true,Bool.true_and,Bool.and_true];exact rfl))) ?_)));all_goals (try (conv=>whnf))
   all_goals rfl
  |false=>
   rw[if_neg Bool.false_ne_true];refine Fn.runO KF rfl rfl rfl ?_;generalize Tryz.prog=P at *
   (repeat' ((conv=>whnf);first|exact trivial|with_reducible refine zX ?_|refine⟨rfl,?_⟩|refine⟨_,rfl,?_⟩|with_reducible refine zP ?_|with_reducible refine zL ?_|refine⟨fun _=>?_,fun _=>?_⟩|refine zO ?_|refine zn ?_|refine zb rfl ?_|refine zX ?_|refine zo rfl ?_|refine zs ?_|intro _|((with_reducible show testB.match_1 (fun _=>Prop) _ _ _);refine dY (by (first|exact rfl|(simp only[aV,aL,aM,bC,aH,aQ,List.all_cons,List.all_nil,aG,a6,a7,aB,aC,aA,bA,aE,a8,Bool.or_true,Bool.true_and,Bool.and_true];done)|(simp only[aV,aL,aM,bC,aH,aQ,List.all_cons,List.all_nil,aG,a6,a7,aB,aC,aA,bA,aE,a8,Bool.or_true,Bool.true_and,Bool.and_true];exact rfl))) ?_)));all_goals (try (conv=>whnf))
   all_goals rfl
open Go.RowKit Ma
theorem jZ(m:Im):(mI m).length=m.length:=by simp[mI]
theorem xK{m:Im}{v x y:Int}(h:bM m v=some y):(dE m v x).length=m.length:=by
 have:=w4 (m:=mI m) (v:=v) (x:=.int .i64 x) (y:=.int .i64 y) (by rw[tP,h];rfl)
 rw[y3,jZ,jZ] at this;exact this
theorem F0{m:Im}{ss:List Int}{v x:Int}(hl:ss.length=m.length)(hn:ss.Nodup)(hv:bM m v=some x):∃s,cQ (some .i64) (.int .i64 v) (fZ (dL (mK (mI m)) (mV (mI m))) ss)=some (.int .i64 x,s) /\
  ∀y:Int,dQ s (.p (.int .i64 y)) (fZ (dL (mK (mI m)) (mV (mI m))) ss)=some (fZ (dL (mK (mI (dE m v y))) (mV (mI (dE m v y)))) ss):=by
 obtain⟨s,_,h1,h2⟩:=xF (m:=mI m) (ss:=ss) (v:=v) (x:=.int .i64 x) (by rw[jZ];exact hl) hn (by rw[tP,hv];rfl)
 refine⟨s,by rw[cB];exact h1,fun y=>?_⟩
 rw[cB,cB, <-y3];exact h2 _
theorem BY(m:Im)(ss:List Int):BH (g9 (fZ (dL (mK (mI m)) (mV (mI m))) ss))=some (mK (mI m),mV (mI m)):=by
 rw[cB,pM,zG]
theorem DR(room clock:Int)(h:Hp)(hx:h.Ix)(i k:Nat)(hi:i<h.l.length)(hk:k<h.l.length) :
  aX Tryz.prog 88 [.addr 0 4 0 0,.p (.int .i64 i),.p (.int .i64 k)] [kC room clock h true] [some (kC room clock (h.swap i k) false)] (.tup []):=by
 have hsl:=aT h i k;have r1:=it_row hi;have r2:=it_row hk;have l1:=qL hi;have l2:=qL hk;have r3:=it_row (l:=h.l.set i (g h.l k)) (i:=k) (by simpa using hk)
 rw[<-v6] at r3;rw[<-Nat.zero_add i] at r3
 have hq:PQ (aJ (aJ (dO (dJ (h.l.map dU))) (0+((i:Nat):Int).toNat) (y6 (g h.l k))) (0+((k:Nat):Int).toNat) (y6 (g h.l i))) (dJ (h.l.map dU)).length (dJ ((h.swap i k).l.map dU)):=by
  rw[Nat.zero_add,Nat.zero_add,Int.toNat_natCast,Int.toNat_natCast,v6,v6];exact⟨jT _,by rw[cA,fM,fM];simp⟩
 have r4:=it_row (l:=(h.swap i k).l) (i:=i) (by rw[hsl];exact hi)
 have r5:=it_row (l:=(h.swap i k).l) (i:=k) (by rw[hsl];exact hk)
 rw[show g (h.swap i k).l i=g h.l k by rw[cP hi hk];by_cases e:i=k<;>simp[e]] at r4
 rw[show g (h.swap i k).l k=g h.l i by rw[cP hi hk,if_pos rfl]] at r5
 have l4:=qL (l:=(h.swap i k).l) (i:=i) (by rw[hsl];exact hi)
 have l5:=qL (l:=(h.swap i k).l) (i:=k) (by rw[hsl];exact hk)
 have hq2:=yO (h.swap i k).l;have h2:∀r,r∈dL (mK (mI h.ix)) (mV (mI h.ix))->G3 r=true:=by rw[cB];exact PF _
 have hlk1:=(hx.look (g h.l k).v k).2 ⟨k,rfl,hk,rfl⟩
 obtain⟨y2,hlk2⟩:∃y,bM (dE h.ix (g h.l k).v i) (g h.l i).v=some y:=by
  rw[mS]
  split
  ·exact⟨_,rfl⟩
  ·exact⟨_,(hx.look (g h.l i).v i).2 ⟨i,rfl,hi,rfl⟩⟩
 rw[bW,bW];simp only[y6] at r1 r2 r3 r4 r5 hq;refine Fn.runO h88 rfl rfl rfl ?_;generalize Tryz.prog=P at *
 (repeat' ((conv=>whnf);first|exact trivial|with_reducible refine zX ?_|refine⟨rfl,?_⟩|refine⟨_,rfl,?_⟩|with_reducible refine zP ?_|with_reducible refine zL ?_|refine⟨fun _=>?_,fun _=>?_⟩|refine zO ?_|refine zn ?_|refine zb rfl ?_|refine zX ?_|refine zo rfl ?_|refine zs ?_|intro _|((with_reducible show testB.match_1 (fun _=>Prop) _ _ _);refine dY (by (first|exact rfl|(simp only[aV,aL,aM,bC,aH,aQ,List.all_cons,List.all_nil,aG,a6,a7,aB,aC,aA,bA,aE,a8,Bool.or_true,Bool.true_and,Bool.and_true];done)|(simp only[aV,aL,aM,bC,aH,aQ,List.all_cons,List.all_nil,aG,a6,a7,aB,aC,aA,bA,aE,a8,Bool.or_true,Bool.true_and,Bool.and_true];exact rfl))) ?_)));all_goals (try (conv=>whnf))
 all_goals try exact h2 _ (by assumption)
 rename_i ss hs1 hs2
 have hs1:ss.length=h.ix.length:=by
  have:ss.length=(dL (mK (mI h.ix)) (mV (mI h.ix))).length:=hs1;rw[this,cB,BO,jZ]
 obtain⟨s1,e1,u1⟩:=F0 hs1 hs2 hlk1;obtain⟨s2,e2,u2⟩:=F0 (m:=dE h.ix (g h.l k).v i) (ss:=ss) (by rw[xK hlk1];exact hs1) hs2 hlk2
 have hcl:=BY (dE (dE h.ix (g h.l k).v i) (g h.l i).v k) ss;rw[e1]
 (repeat' ((conv=>whnf);first|exact trivial|with_reducible refine zX ?_|refine⟨rfl,?_⟩|refine⟨_,rfl,?_⟩|with_reducible refine zP ?_|with_reducible refine zL ?_|refine⟨fun _=>?_,fun _=>?_⟩|refine zO ?_|refine zn ?_|refine zb rfl ?_|refine zX ?_|refine zo rfl ?_|refine zs ?_|intro _|((with_reducible show testB.match_1 (fun _=>Prop) _ _ _);refine dY (by (first|exact rfl|(simp only[aV,aL,aM,bC,aH,aQ,List.all_cons,List.all_nil,aG,a6,a7,aB,aC,aA,bA,aE,a8,Bool.or_true,Bool.true_and,Bool.and_true];done)|(simp only[aV,aL,aM,bC,aH,aQ,List.all_cons,List.all_nil,aG,a6,a7,aB,aC,aA,bA,aE,a8,Bool.or_true,Bool.true_and,Bool.and_true];exact rfl))) ?_)));all_goals (try (conv=>whnf))
 conv in (dQ _ _ _)=>arg 2;whnf
 rw[u1 i]
 (repeat' ((conv=>whnf);first|exact trivial|with_reducible refine zX ?_|refine⟨rfl,?_⟩|refine⟨_,rfl,?_⟩|with_reducible refine zP ?_|with_reducible refine zL ?_|refine⟨fun _=>?_,fun _=>?_⟩|refine zO ?_|refine zn ?_|refine zb rfl ?_|refine zX ?_|refine zo rfl ?_|refine zs ?_|intro _|((with_reducible show testB.match_1 (fun _=>Prop) _ _ _);refine dY (by (first|exact rfl|(simp only[aV,aL,aM,bC,aH,aQ,List.all_cons,List.all_nil,aG,a6,a7,aB,aC,aA,bA,aE,a8,Bool.or_true,Bool.true_and,Bool.and_true];done)|(simp only[aV,aL,aM,bC,aH,aQ,List.all_cons,List.all_nil,aG,a6,a7,aB,aC,aA,bA,aE,a8,Bool.or_true,Bool.true_and,Bool.and_true];exact rfl))) ?_)));all_goals (try (conv=>whnf))
 rw[e2]
 (repeat' ((conv=>whnf);first|exact trivial|with_reducible refine zX ?_|refine⟨rfl,?_⟩|refine⟨_,rfl,?_⟩|with_reducible refine zP ?_|with_reducible refine zL ?_|refine⟨fun _=>?_,fun _=>?_⟩|refine zO ?_|refine zn ?_|refine zb rfl ?_|refine zX ?_|refine zo rfl ?_|refine zs ?_|intro _|((with_reducible show testB.match_1 (fun _=>Prop) _ _ _);refine dY (by (first|exact rfl|(simp only[aV,aL,aM,bC,aH,aQ,List.all_cons,List.all_nil,aG,a6,a7,aB,aC,aA,bA,aE,a8,Bool.or_true,Bool.true_and,Bool.and_true];done)|(simp only[aV,aL,aM,bC,aH,aQ,List.all_cons,List.all_nil,aG,a6,a7,aB,aC,aA,bA,aE,a8,Bool.or_true,Bool.true_and,Bool.and_true];exact rfl))) ?_)));all_goals (try (conv=>whnf))
 conv in (dQ _ _ _)=>arg 2;whnf
 rw[u2 k]
 (repeat' ((conv=>whnf);first|exact trivial|with_reducible refine zX ?_|refine⟨rfl,?_⟩|refine⟨_,rfl,?_⟩|with_reducible refine zP ?_|with_reducible refine zL ?_|refine⟨fun _=>?_,fun _=>?_⟩|refine zO ?_|refine zn ?_|refine zb rfl ?_|refine zX ?_|refine zo rfl ?_|refine zs ?_|intro _|((with_reducible show testB.match_1 (fun _=>Prop) _ _ _);refine dY (by (first|exact rfl|(simp only[aV,aL,aM,bC,aH,aQ,List.all_cons,List.all_nil,aG,a6,a7,aB,aC,aA,bA,aE,a8,Bool.or_true,Bool.true_and,Bool.and_true];done)|(simp only[aV,aL,aM,bC,aH,aQ,List.all_cons,List.all_nil,aG,a6,a7,aB,aC,aA,bA,aE,a8,Bool.or_true,Bool.true_and,Bool.and_true];exact rfl))) ?_)));all_goals (try (conv=>whnf))
 all_goals first
  |rfl
  |trace_state
open Go.RowKit Ma
theorem EU(room clock:Int)(h:Hp)(hx:h.Ix)(i:Nat)(hi:i<h.l.length)(hlen:h.l.length<=1000) :
  aX Tryz.prog 87 [.addr 0 4 0 0,.p (.int .i64 i)] [kC room clock h true] [some (kC room clock (h.rise i) false)] (.tup []):=by
 have hLs:=fun (h:Hp) i k hi hk=>JR room clock h i k hi hk
 have hSw:=fun (h:Hp) hx i k hi hk=>DR room clock h hx i k hi hk
 refine Fn.runO h87 rfl rfl rfl ?_;generalize Tryz.prog=P at *
 (repeat' ((conv=>whnf);first|exact trivial|with_reducible refine zX ?_|refine⟨rfl,?_⟩|refine⟨_,rfl,?_⟩|with_reducible refine zP ?_|with_reducible refine zL ?_|refine⟨fun _=>?_,fun _=>?_⟩|refine zO ?_|refine zn ?_|refine zb rfl ?_|refine zX ?_|refine zo rfl ?_|refine zs ?_|intro _|((with_reducible show testB.match_1 (fun _=>Prop) _ _ _);refine dY (by (first|exact rfl|(simp only[aV,aL,aM,bC,aH,aQ,List.all_cons,List.all_nil,aG,a6,a7,aB,aC,aA,bA,aE,a8,Bool.or_true,Bool.true_and,Bool.and_true];done)|(simp only[aV,aL,aM,bC,aH,aQ,List.all_cons,List.all_nil,aG,a6,a7,aB,aC,aA,bA,aE,a8,Bool.or_true,Bool.true_and,Bool.and_true];exact rfl))) ?_)));all_goals (try (conv=>whnf))
 refine cE (fun n s=>∃(h':Hp) (i':Nat),(i'=n/\h'.Ix/\i'<h'.l.length/\h'.l.length=h.l.length/\h'.rise i'=h.rise i)/\s=⟨uB 23 [(0,.addr 0 4 0 0),(1,.p (.int .i64 i'))],[some (kC room clock h' true)]⟩) i ?_ ?_
 ·conv=>whnf
  exact⟨h,i,⟨rfl,hx,hi,rfl,rfl⟩,rfl⟩
 ·rintro n st b N ⟨h',i',⟨rfl,hx',hi',hl',hr⟩,e0⟩ hN
  cases e0
  by_cases h0:0<i'
  ·have b1:decide ((i':Int)>0)=true:=decide_eq_true (by omega)
   have hk:(i'-1)/2<h'.l.length:=by omega
   have hw0:IntKind.wrap IntKind.i64 ((i':Int)-1)=((i'-1:Nat):Int):=by rw[bJ (by omega) (by omega)];omega
   have hw:IntKind.wrap IntKind.i64 ((IntKind.wrap IntKind.i64 ((i':Int)-1)).tdiv 2)=(((i'-1)/2:Nat):Int):=by
    rw[hw0,show ((i'-1:Nat):Int).tdiv 2=(((i'-1)/2:Nat):Int) by rw[Int.tdiv_eq_ediv_of_nonneg (by omega)];omega,bJ (by omega) (by omega)]
   have hL:=hLs h' i' ((i'-1)/2) hi' hk;rw[<-hw] at hL
   cases hlt:(g h'.l i').lt (g h'.l ((i'-1)/2)) with
   |true=>
    rw[hlt] at hL;have hS:=hSw h' hx' i' ((i'-1)/2) hi' hk;rw[<-hw] at hS
    have hstep:∀{s:St},s=⟨uB 23 [(0,.addr 0 4 0 0),(1,.p (.int .i64 (IntKind.wrap IntKind.i64 ((IntKind.wrap IntKind.i64 ((i':Int)-1)).tdiv 2))))],[some (kC room clock (h'.swap i' ((i'-1)/2)) true)]⟩->N s:=fun e2=>by
     rw[hw] at e2;refine hN ((i'-1)/2) _ (by omega) ⟨_,(i'-1)/2,⟨rfl,hx'.swap hi' hk,by rw[aT];exact hk,by rw[aT];exact hl',?_⟩,e2⟩
     rw[<-hr,Hp.rise.eq_def h' i',if_pos ⟨h0,hlt⟩]
    clear hN hLs hSw hr
    (repeat' ((conv=>whnf);first|exact trivial|with_reducible refine zX ?_|refine⟨rfl,?_⟩|refine⟨_,rfl,?_⟩|with_reducible refine zP ?_|with_reducible refine zL ?_|refine⟨fun _=>?_,fun _=>?_⟩|refine zO ?_|refine zn ?_|refine zb rfl ?_|refine zX ?_|refine zo rfl ?_|refine zs ?_|intro _|((with_reducible show testB.match_1 (fun _=>Prop) _ _ _);refine dY (by (first|exact rfl|(simp only[aV,aL,aM,bC,aH,aQ,List.all_cons,List.all_nil,aG,a6,a7,aB,aC,aA,bA,aE,a8,Bool.or_true,Bool.true_and,Bool.and_true];done)|(simp only[aV,aL,aM,bC,aH,aQ,List.all_cons,List.all_nil,aG,a6,a7,aB,aC,aA,bA,aE,a8,Bool.or_true,Bool.true_and,Bool.and_true];exact rfl))) ?_)));all_goals (try (conv=>whnf))
    all_goals first
     |exact hstep rfl
     |trace_state
   |false=>
    rw[hlt] at hL;have e:h.rise i=h':=by rw[<-hr,Hp.rise.eq_def h' i',if_neg (fun hc=>by rw[hlt] at hc;exact Bool.noConfusion hc.2)]
    rw[e];clear hN hLs hSw hr
    (repeat' ((conv=>whnf);first|exact trivial|with_reducible refine zX ?_|refine⟨rfl,?_⟩|refine⟨_,rfl,?_⟩|with_reducible refine zP ?_|with_reducible refine zL ?_|refine⟨fun _=>?_,fun _=>?_⟩|refine zO ?_|refine zn ?_|refine zb rfl ?_|refine zX ?_|refine zo rfl ?_|refine zs ?_|intro _|((with_reducible show testB.match_1 (fun _=>Prop) _ _ _);refine dY (by (first|exact rfl|(simp only[aV,aL,aM,bC,aH,aQ,List.all_cons,List.all_nil,aG,a6,a7,aB,aC,aA,bA,aE,a8,Bool.or_true,Bool.true_and,Bool.and_true];done)|(simp only[aV,aL,aM,bC,aH,aQ,List.all_cons,List.all_nil,aG,a6,a7,aB,aC,aA,bA,aE,a8,Bool.or_true,Bool.true_and,Bool.and_true];exact rfl))) ?_)));all_goals (try (conv=>whnf))
    all_goals first
     |rfl
     |trace_state
  ·have b1:decide ((i':Int)>0)=false:=decide_eq_false (by omega)
   have e:h.rise i=h':=by rw[<-hr,Hp.rise.eq_def h' i',if_neg (fun hc=>h0 hc.1)]
   rw[e];clear hN hLs hSw hr
   (repeat' ((conv=>whnf);first|exact trivial|with_reducible refine zX ?_|refine⟨rfl,?_⟩|refine⟨_,rfl,?_⟩|with_reducible refine zP ?_|with_reducible refine zL ?_|refine⟨fun _=>?_,fun _=>?_⟩|refine zO ?_|refine zn ?_|refine zb rfl ?_|refine zX ?_|refine zo rfl ?_|refine zs ?_|intro _|((with_reducible show testB.match_1 (fun _=>Prop) _ _ _);refine dY (by (first|exact rfl|(simp only[aV,aL,aM,bC,aH,aQ,List.all_cons,List.all_nil,aG,a6,a7,aB,aC,aA,bA,aE,a8,Bool.or_true,Bool.true_and,Bool.and_true];done)|(simp only[aV,aL,aM,bC,aH,aQ,List.all_cons,List.all_nil,aG,a6,a7,aB,aC,aA,bA,aE,a8,Bool.or_true,Bool.true_and,Bool.and_true];exact rfl))) ?_)));all_goals (try (conv=>whnf))
   all_goals first
    |rfl
    |trace_state
theorem TD(room clock:Int)(h:Hp)(hx:h.Ix)(i:Nat)(hi:i<h.l.length)(hlen:h.l.length<=1000) :
  aX Tryz.prog 89 [.addr 0 4 0 0,.p (.int .i64 i)] [kC room clock h true] [some (kC room clock (h.sink i) false)] (.tup []):=by
 have hLs:=fun (h:Hp) i k hi hk=>JR room clock h i k hi hk
 have hSw:=fun (h:Hp) hx i k hi hk=>DR room clock h hx i k hi hk
 refine Fn.runO h89 rfl rfl rfl ?_;generalize Tryz.prog=P at *
 (repeat' ((conv=>whnf);first|exact trivial|with_reducible refine zX ?_|refine⟨rfl,?_⟩|refine⟨_,rfl,?_⟩|with_reducible refine zP ?_|with_reducible refine zL ?_|refine⟨fun _=>?_,fun _=>?_⟩|refine zO ?_|refine zn ?_|refine zb rfl ?_|refine zX ?_|refine zo rfl ?_|refine zs ?_|intro _|((with_reducible show testB.match_1 (fun _=>Prop) _ _ _);refine dY (by (first|exact rfl|(simp only[aV,aL,aM,bC,aH,aQ,List.all_cons,List.all_nil,aG,a6,a7,aB,aC,aA,bA,aE,a8,Bool.or_true,Bool.true_and,Bool.and_true];done)|(simp only[aV,aL,aM,bC,aH,aQ,List.all_cons,List.all_nil,aG,a6,a7,aB,aC,aA,bA,aE,a8,Bool.or_true,Bool.true_and,Bool.and_true];exact rfl))) ?_)));all_goals (try (conv=>whnf))
 refine cE (fun n s=>∃(h':Hp) (i':Nat),(i'+n=h'.l.length/\h'.Ix/\i'<h'.l.length/\h'.l.length=h.l.length/\h'.sink i'=h.sink i)/\s=⟨uB 44 [(0,.addr 0 4 0 0),(1,.p (.int .i64 i'))],[some (kC room clock h' true)]⟩) (h.l.length-i) ?_ ?_
 ·conv=>whnf
  exact⟨h,i,⟨by omega,hx,hi,rfl,rfl⟩,rfl⟩
 ·rintro n st b N ⟨h',i',⟨hn,hx',hi',hl',hr⟩,e0⟩ hN
  cases e0
  have hob:=fM h'.l;have hw0:IntKind.wrap IntKind.i64 (2*(i':Int))=2*(i':Int):=bJ (by omega) (by omega)
  have hw1:IntKind.wrap IntKind.i64 (IntKind.wrap IntKind.i64 (2*(i':Int))+1)=((2*i'+1:Nat):Int):=by rw[hw0,bJ (by omega) (by omega)];omega
  have hw2:IntKind.wrap IntKind.i64 (IntKind.wrap IntKind.i64 (IntKind.wrap IntKind.i64 (2*(i':Int))+1)+1)=((2*i'+1+1:Nat):Int):=by rw[hw1,bJ (by omega) (by omega)];omega
  by_cases hA:2*i'+1+1<h'.l.length
  ·have b1:decide (IntKind.wrap IntKind.i64 (IntKind.wrap IntKind.i64 (IntKind.wrap IntKind.i64 (2*(i':Int))+1)+1)<((dJ (h'.l.map dU)).length:Int))=true:=decide_eq_true (by rw[hw2,hob];omega)
   have b3:decide (IntKind.wrap IntKind.i64 (IntKind.wrap IntKind.i64 (2*(i':Int))+1)≥((dJ (h'.l.map dU)).length:Int))=false:=decide_eq_false (by rw[hw1,hob];omega)
   have b4:decide (IntKind.wrap IntKind.i64 (IntKind.wrap IntKind.i64 (IntKind.wrap IntKind.i64 (2*(i':Int))+1)+1)≥((dJ (h'.l.map dU)).length:Int))=false:=decide_eq_false (by rw[hw2,hob];omega)
   have hL1:=hLs h' (2*i'+1+1) (2*i'+1) hA (by omega)
   rw[<-hw2, <-hw1] at hL1
   cases hq:(g h'.l (2*i'+1+1)).lt (g h'.l (2*i'+1)) with
   |true=>
    rw[hq] at hL1;have hlow:low h' i'=2*i'+1+1:=by unfold low;rw[if_pos ⟨hA,hq⟩]
    have hL2:=hLs h' (2*i'+1+1) i' (by omega) hi'
    rw[<-hw2] at hL2
    cases hlt:(g h'.l (2*i'+1+1)).lt (g h'.l i') with
    |true=>
     rw[hlt] at hL2;have hS:=hSw h' hx' i' (2*i'+1+1) hi' (by omega)
     rw[<-hw2] at hS
     have hstep:∀{s:St},s=⟨uB 44 [(0,.addr 0 4 0 0),(1,.p (.int .i64 (IntKind.wrap IntKind.i64 (IntKind.wrap IntKind.i64 (IntKind.wrap IntKind.i64 (2*(i':Int))+1)+1))))],[some (kC room clock (h'.swap i' (2*i'+1+1)) true)]⟩->N s:=fun e2=>by
      rw[hw2] at e2;refine hN (n-1-(2*i'+1+1-i'-1)) _ (by omega) ⟨_,2*i'+1+1,⟨by rw[aT];omega,hx'.swap hi' (by omega),by rw[aT];omega,by rw[aT];exact hl',?_⟩,e2⟩
      rw[<-hr,Hp.sink.eq_def h' i',hlow,if_pos ⟨by omega,hlt⟩]
     clear hN hLs hSw hr
     (repeat' ((conv=>whnf);first|exact trivial|with_reducible refine zX ?_|refine⟨rfl,?_⟩|refine⟨_,rfl,?_⟩|with_reducible refine zP ?_|with_reducible refine zL ?_|refine⟨fun _=>?_,fun _=>?_⟩|refine zO ?_|refine zn ?_|refine zb rfl ?_|refine zX ?_|refine zo rfl ?_|refine zs ?_|intro _|((with_reducible show testB.match_1 (fun _=>Prop) _ _ _);refine dY (by (first|exact rfl|(simp only[aV,aL,aM,bC,aH,aQ,List.all_cons,List.all_nil,aG,a6,a7,aB,aC,aA,bA,aE,a8,Bool.or_true,Bool.true_and,Bool.and_true];done)|(simp only[aV,aL,aM,bC,aH,aQ,List.all_cons,List.all_nil,aG,a6,a7,aB,aC,aA,bA,aE,a8,Bool.or_true,Bool.true_and,Bool.and_true];exact rfl))) ?_)));all_goals (try (conv=>whnf))
     all_goals first
      |exact hstep rfl
      |trace_state
    |false=>
     rw[hlt] at hL2;have e:h.sink i=h':=by rw[<-hr,Hp.sink.eq_def h' i',hlow,if_neg (fun hc=>by rw[hlt] at hc;exact Bool.noConfusion hc.2)]
     rw[e];clear hN hLs hSw hr
     (repeat' ((conv=>whnf);first|exact trivial|with_reducible refine zX ?_|refine⟨rfl,?_⟩|refine⟨_,rfl,?_⟩|with_reducible refine zP ?_|with_reducible refine zL ?_|refine⟨fun _=>?_,fun _=>?_⟩|refine zO ?_|refine zn ?_|refine zb rfl ?_|refine zX ?_|refine zo rfl ?_|refine zs ?_|intro _|((with_reducible show testB.match_1 (fun _=>Prop) _ _ _);refine dY (by (first|exact rfl|(simp only[aV,aL,aM,bC,aH,aQ,List.all_cons,List.all_nil,aG,a6,a7,aB,aC,aA,bA,aE,a8,Bool.or_true,Bool.true_and,Bool.and_true];done)|(simp only[aV,aL,aM,bC,aH,aQ,List.all_cons,List.all_nil,aG,a6,a7,aB,aC,aA,bA,aE,a8,Bool.or_true,Bool.true_and,Bool.and_true];exact rfl))) ?_)));all_goals (try (conv=>whnf))
     all_goals first
      |rfl
      |trace_state
   |false=>
    rw[hq] at hL1;have hlow:low h' i'=2*i'+1:=by unfold low;rw[if_neg (fun hc=>by rw[hq] at hc;exact Bool.noConfusion hc.2)]
    have hL2:=hLs h' (2*i'+1) i' (by omega) hi'
    rw[<-hw1] at hL2
    cases hlt:(g h'.l (2*i'+1)).lt (g h'.l i') with
    |true=>
     rw[hlt] at hL2;have hS:=hSw h' hx' i' (2*i'+1) hi' (by omega)
     rw[<-hw1] at hS
     have hstep:∀{s:St},s=⟨uB 44 [(0,.addr 0 4 0 0),(1,.p (.int .i64 (IntKind.wrap IntKind.i64 (IntKind.wrap IntKind.i64 (2*(i':Int))+1))))],[some (kC room clock (h'.swap i' (2*i'+1)) true)]⟩->N s:=fun e2=>by
      rw[hw1] at e2;refine hN (n-1-(2*i'+1-i'-1)) _ (by omega) ⟨_,2*i'+1,⟨by rw[aT];omega,hx'.swap hi' (by omega),by rw[aT];omega,by rw[aT];exact hl',?_⟩,e2⟩
      rw[<-hr,Hp.sink.eq_def h' i',hlow,if_pos ⟨by omega,hlt⟩]
     clear hN hLs hSw hr
     (repeat' ((conv=>whnf);first|exact trivial|with_reducible refine zX ?_|refine⟨rfl,?_⟩|refine⟨_,rfl,?_⟩|with_reducible refine zP ?_|with_reducible refine zL ?_|refine⟨fun _=>?_,fun _=>?_⟩|refine zO ?_|refine zn ?_|refine zb rfl ?_|refine zX ?_|refine zo rfl ?_|refine zs ?_|intro _|((with_reducible show testB.match_1 (fun _=>Prop) _ _ _);refine dY (by (first|exact rfl|(simp only[aV,aL,aM,bC,aH,aQ,List.all_cons,List.all_nil,aG,a6,a7,aB,aC,aA,bA,aE,a8,Bool.or_true,Bool.true_and,Bool.and_true];done)|(simp only[aV,aL,aM,bC,aH,aQ,List.all_cons,List.all_nil,aG,a6,a7,aB,aC,aA,bA,aE,a8,Bool.or_true,Bool.true_and,Bool.and_true];exact rfl))) ?_)));all_goals (try (conv=>whnf))
     all_goals first
      |exact hstep rfl
      |trace_state
    |false=>
     rw[hlt] at hL2;have e:h.sink i=h':=by rw[<-hr,Hp.sink.eq_def h' i',hlow,if_neg (fun hc=>by rw[hlt] at hc;exact Bool.noConfusion hc.2)]
     rw[e];clear hN hLs hSw hr
     (repeat' ((conv=>whnf);first|exact trivial|with_reducible refine zX ?_|refine⟨rfl,?_⟩|refine⟨_,rfl,?_⟩|with_reducible refine zP ?_|with_reducible refine zL ?_|refine⟨fun _=>?_,fun _=>?_⟩|refine zO ?_|refine zn ?_|refine zb rfl ?_|refine zX ?_|refine zo rfl ?_|refine zs ?_|intro _|((with_reducible show testB.match_1 (fun _=>Prop) _ _ _);refine dY (by (first|exact rfl|(simp only[aV,aL,aM,bC,aH,aQ,List.all_cons,List.all_nil,aG,a6,a7,aB,aC,aA,bA,aE,a8,Bool.or_true,Bool.true_and,Bool.and_true];done)|(simp only[aV,aL,aM,bC,aH,aQ,List.all_cons,List.all_nil,aG,a6,a7,aB,aC,aA,bA,aE,a8,Bool.or_true,Bool.true_and,Bool.and_true];exact rfl))) ?_)));all_goals (try (conv=>whnf))
     all_goals first
      |rfl
      |trace_state
  ·have b1:decide (IntKind.wrap IntKind.i64 (IntKind.wrap IntKind.i64 (IntKind.wrap IntKind.i64 (2*(i':Int))+1)+1)<((dJ (h'.l.map dU)).length:Int))=false:=decide_eq_false (by rw[hw2,hob];omega)
   have hlow:low h' i'=2*i'+1:=by unfold low;rw[if_neg (fun hc=>hA hc.1)]
   by_cases hB:2*i'+1<h'.l.length
   ·have b3:decide (IntKind.wrap IntKind.i64 (IntKind.wrap IntKind.i64 (2*(i':Int))+1)≥((dJ (h'.l.map dU)).length:Int))=false:=decide_eq_false (by rw[hw1,hob];omega)
    have hL2:=hLs h' (2*i'+1) i' (by omega) hi'
    rw[<-hw1] at hL2
    cases hlt:(g h'.l (2*i'+1)).lt (g h'.l i') with
    |true=>
     rw[hlt] at hL2;have hS:=hSw h' hx' i' (2*i'+1) hi' (by omega)
     rw[<-hw1] at hS
     have hstep:∀{s:St},s=⟨uB 44 [(0,.addr 0 4 0 0),(1,.p (.int .i64 (IntKind.wrap IntKind.i64 (IntKind.wrap IntKind.i64 (2*(i':Int))+1))))],[some (kC room clock (h'.swap i' (2*i'+1)) true)]⟩->N s:=fun e2=>by
      rw[hw1] at e2;refine hN (n-1-(2*i'+1-i'-1)) _ (by omega) ⟨_,2*i'+1,⟨by rw[aT];omega,hx'.swap hi' (by omega),by rw[aT];omega,by rw[aT];exact hl',?_⟩,e2⟩
      rw[<-hr,Hp.sink.eq_def h' i',hlow,if_pos ⟨by omega,hlt⟩]
     clear hN hLs hSw hr
     (repeat' ((conv=>whnf);first|exact trivial|with_reducible refine zX ?_|refine⟨rfl,?_⟩|refine⟨_,rfl,?_⟩|with_reducible refine zP ?_|with_reducible refine zL ?_|refine⟨fun _=>?_,fun _=>?_⟩|refine zO ?_|refine zn ?_|refine zb rfl ?_|refine zX ?_|refine zo rfl ?_|refine zs ?_|intro _|((with_reducible show testB.match_1 (fun _=>Prop) _ _ _);refine dY (by (first|exact rfl|(simp only[aV,aL,aM,bC,aH,aQ,List.all_cons,List.all_nil,aG,a6,a7,aB,aC,aA,bA,aE,a8,Bool.or_true,Bool.true_and,Bool.and_true];done)|(simp only[aV,aL,aM,bC,aH,aQ,List.all_cons,List.all_nil,aG,a6,a7,aB,aC,aA,bA,aE,a8,Bool.or_true,Bool.true_and,Bool.and_true];exact rfl))) ?_)));all_goals (try (conv=>whnf))
     all_goals first
      |exact hstep rfl
      |trace_state
    |false=>
     rw[hlt] at hL2;have e:h.sink i=h':=by rw[<-hr,Hp.sink.eq_def h' i',hlow,if_neg (fun hc=>by rw[hlt] at hc;exact Bool.noConfusion hc.2)]
     rw[e];clear hN hLs hSw hr
     (repeat' ((conv=>whnf);first|exact trivial|with_reducible refine zX ?_|refine⟨rfl,?_⟩|refine⟨_,rfl,?_⟩|with_reducible refine zP ?_|with_reducible refine zL ?_|refine⟨fun _=>?_,fun _=>?_⟩|refine zO ?_|refine zn ?_|refine zb rfl ?_|refine zX ?_|refine zo rfl ?_|refine zs ?_|intro _|((with_reducible show testB.match_1 (fun _=>Prop) _ _ _);refine dY (by (first|exact rfl|(simp only[aV,aL,aM,bC,aH,aQ,List.all_cons,List.all_nil,aG,a6,a7,aB,aC,aA,bA,aE,a8,Bool.or_true,Bool.true_and,Bool.and_true];done)|(simp only[aV,aL,aM,bC,aH,aQ,List.all_cons,List.all_nil,aG,a6,a7,aB,aC,aA,bA,aE,a8,Bool.or_true,Bool.true_and,Bool.and_true];exact rfl))) ?_)));all_goals (try (conv=>whnf))
     all_goals first
      |rfl
      |trace_state
   ·have b3:decide (IntKind.wrap IntKind.i64 (IntKind.wrap IntKind.i64 (2*(i':Int))+1)≥((dJ (h'.l.map dU)).length:Int))=true:=decide_eq_true (by rw[hw1,hob];omega)
    have e:h.sink i=h':=by rw[<-hr,Hp.sink.eq_def h' i',hlow,if_neg (fun hc=>hB hc.1)]
    rw[e];clear hN hLs hSw hr
    (repeat' ((conv=>whnf);first|exact trivial|with_reducible refine zX ?_|refine⟨rfl,?_⟩|refine⟨_,rfl,?_⟩|with_reducible refine zP ?_|with_reducible refine zL ?_|refine⟨fun _=>?_,fun _=>?_⟩|refine zO ?_|refine zn ?_|refine zb rfl ?_|refine zX ?_|refine zo rfl ?_|refine zs ?_|intro _|((with_reducible show testB.match_1 (fun _=>Prop) _ _ _);refine dY (by (first|exact rfl|(simp only[aV,aL,aM,bC,aH,aQ,List.all_cons,List.all_nil,aG,a6,a7,aB,aC,aA,bA,aE,a8,Bool.or_true,Bool.true_and,Bool.and_true];done)|(simp only[aV,aL,aM,bC,aH,aQ,List.all_cons,List.all_nil,aG,a6,a7,aB,aC,aA,bA,aE,a8,Bool.or_true,Bool.true_and,Bool.and_true];exact rfl))) ?_)));all_goals (try (conv=>whnf))
    all_goals first
     |rfl
     |trace_state
open Go.RowKit Ma
theorem JS(m:Im)(v:Int):gW (some .i64) (.int .i64 v) (dL (mK (mI m)) (mV (mI m)))=some ((bM m v).map fun y=>DV.p (.int .i64 y)):=by
 rw[cB,DZ,tP];cases bM m v<;>rfl
theorem TE(m:Im)(v y:Int):iW (some .i64) (.int .i64 v) (.p (.int .i64 y)) (dL (mK (mI m)) (mV (mI m)))=some (dL (mK (mI (dE m v y))) (mV (mI (dE m v y)))):=by
 rw[cB,I0,y3,cB]
theorem PW(m:Im)(v:Int):kQ (some .i64) (.int .i64 v) (dL (mK (mI m)) (mV (mI m)))=some (dL (mK (mI (jG m v))) (mV (mI (jG m v)))):=by
 rw[cB,HD,LF,cB]
theorem MN(m:Im):BH (dL (mK (mI m)) (mV (mI m)))=some (mK (mI m),mV (mI m)):=by rw[cB,zG]
theorem QB(m:Im):BH (aY (dL (mK (mI m)) (mV (mI m))))=some (mK (mI m),mV (mI m)):=by rw[cB,yI,zG]
theorem MP(room clock:Int)(h:Hp)(v:Int)(hv:bM h.ix v=none) :
  aX Tryz.prog 56 [.addr 0 4 0 0,.p (.int .i64 v)] [kC room clock h true] [some (kC room clock h false)] (.p (.bool false)):=by
 have f1:=JS h.ix v;rw[hv] at f1;have f2:=MN h.ix;rw[bW,bW];refine Fn.runO UW rfl rfl rfl ?_;generalize Tryz.prog=P at *
 (repeat' ((conv=>whnf);first|exact trivial|with_reducible refine zX ?_|refine⟨rfl,?_⟩|refine⟨_,rfl,?_⟩|with_reducible refine zP ?_|with_reducible refine zL ?_|refine⟨fun _=>?_,fun _=>?_⟩|refine zO ?_|refine zn ?_|refine zb rfl ?_|refine zX ?_|refine zo rfl ?_|refine zs ?_|intro _|((with_reducible show testB.match_1 (fun _=>Prop) _ _ _);refine dY (by (first|exact rfl|(simp only[aV,aL,aM,bC,aH,aQ,List.all_cons,List.all_nil,aG,a6,a7,aB,aC,aA,bA,aE,a8,Bool.or_true,Bool.true_and,Bool.and_true];done)|(simp only[aV,aL,aM,bC,aH,aQ,List.all_cons,List.all_nil,aG,a6,a7,aB,aC,aA,bA,aE,a8,Bool.or_true,Bool.true_and,Bool.and_true];exact rfl))) ?_)));all_goals (try (conv=>whnf))
 rw[f1]
 (repeat' ((conv=>whnf);first|exact trivial|with_reducible refine zX ?_|refine⟨rfl,?_⟩|refine⟨_,rfl,?_⟩|with_reducible refine zP ?_|with_reducible refine zL ?_|refine⟨fun _=>?_,fun _=>?_⟩|refine zO ?_|refine zn ?_|refine zb rfl ?_|refine zX ?_|refine zo rfl ?_|refine zs ?_|intro _|((with_reducible show testB.match_1 (fun _=>Prop) _ _ _);refine dY (by (first|exact rfl|(simp only[aV,aL,aM,bC,aH,aQ,List.all_cons,List.all_nil,aG,a6,a7,aB,aC,aA,bA,aE,a8,Bool.or_true,Bool.true_and,Bool.and_true];done)|(simp only[aV,aL,aM,bC,aH,aQ,List.all_cons,List.all_nil,aG,a6,a7,aB,aC,aA,bA,aE,a8,Bool.or_true,Bool.true_and,Bool.and_true];exact rfl))) ?_)));all_goals (try (conv=>whnf))
 all_goals first
  |rfl
  |trace_state
theorem O2(room:Int)(v:Int) :
  aX Tryz.prog 56 [.addr 0 4 0 0,.p (.int .i64 v)] [HB room true] [some (HB room false)] (.p (.bool false)):=by
 have f2:BH (dL [] [])=some ([],[]):=rfl;rw[eP,eP];refine Fn.runO UW rfl rfl rfl ?_;generalize Tryz.prog=P at *
 (repeat' ((conv=>whnf);first|exact trivial|with_reducible refine zX ?_|refine⟨rfl,?_⟩|refine⟨_,rfl,?_⟩|with_reducible refine zP ?_|with_reducible refine zL ?_|refine⟨fun _=>?_,fun _=>?_⟩|refine zO ?_|refine zn ?_|refine zb rfl ?_|refine zX ?_|refine zo rfl ?_|refine zs ?_|intro _|((with_reducible show testB.match_1 (fun _=>Prop) _ _ _);refine dY (by (first|exact rfl|(simp only[aV,aL,aM,bC,aH,aQ,List.all_cons,List.all_nil,aG,a6,a7,aB,aC,aA,bA,aE,a8,Bool.or_true,Bool.true_and,Bool.and_true];done)|(simp only[aV,aL,aM,bC,aH,aQ,List.all_cons,List.all_nil,aG,a6,a7,aB,aC,aA,bA,aE,a8,Bool.or_true,Bool.true_and,Bool.and_true];exact rfl))) ?_)));all_goals (try (conv=>whnf))
 all_goals first
  |rfl
  |trace_state
theorem QS(room clock:Int)(h:Hp)(hx:h.Ix)(n:Nat)(hn:n<h.l.length)(hlen:h.l.length<=1000) :
  aX Tryz.prog 56 [.addr 0 4 0 0,.p (.int .i64 (g h.l n).v)] [kC room clock h true] [some (kC room clock (h.out n (g h.l n).v) false)] (.p (.bool true)):=by
 have hv:=(hx.look (g h.l n).v n).2 ⟨n,rfl,hn,rfl⟩;have f1:=JS h.ix (g h.l n).v;rw[hv] at f1;have f2:=MN h.ix;have hob:=fM h.l;have hlast:h.l.length-1<h.l.length:=by omega
 have hS:=DR room clock h hx n (h.l.length-1) hn hlast;have hw:IntKind.wrap IntKind.i64 (((dJ (h.l.map dU)).length:Int)-1)=((h.l.length-1:Nat):Int):=by rw[hob,bJ (by omega) (by omega)];omega
 rw[<-hw] at hS;have hsl:=aT h n (h.l.length-1);have hqx:=wQ hx hn;have hql:((h.swap n (h.l.length-1)).pop (g h.l n).v).l.length=h.l.length-1:=by simp[Hp.pop,hsl]
 have t1:0<=IntKind.wrap IntKind.i64 (((dJ (h.l.map dU)).length:Int)-1):=by rw[hw];omega
 have hob2:=fM (h.swap n (h.l.length-1)).l;have t2:IntKind.wrap IntKind.i64 (((dJ (h.l.map dU)).length:Int)-1)<=((dJ ((h.swap n (h.l.length-1)).l.map dU)).length:Int):=by rw[hw,hob2,hsl];omega
 have t3:IntKind.wrap IntKind.i64 (((dJ (h.l.map dU)).length:Int)-1)<=((dO (dJ ((h.swap n (h.l.length-1)).l.map dU))).length:Int):=by rw[hw,cA,hob2,hsl];omega
 have hq:PQ ((dO (dJ ((h.swap n (h.l.length-1)).l.map dU))).take (IntKind.wrap IntKind.i64 (((dJ (h.l.map dU)).length:Int)-1)).toNat) (IntKind.wrap IntKind.i64 (((dJ (h.l.map dU)).length:Int)-1)).toNat (dJ (((h.swap n (h.l.length-1)).pop (g h.l n).v).l.map dU)):=by
  rw[hw,Int.toNat_natCast,eN,HF, <-List.map_take];refine⟨?_,by rw[CF];simp[hsl]⟩
  rw[JI,Hp.pop,hsl]
 have f3:=PW (h.swap n (h.l.length-1)).ix (g h.l n).v;have f4:=QB (jG (h.swap n (h.l.length-1)).ix (g h.l n).v);have hR:=fun hi=>EU room clock ((h.swap n (h.l.length-1)).pop (g h.l n).v) hqx n hi (by omega)
 have hK:=fun (hi:n<((h.swap n (h.l.length-1)).pop (g h.l n).v).l.length)=>TD room clock (((h.swap n (h.l.length-1)).pop (g h.l n).v).rise n) ((gN _ n hi).ix hqx) n (by rw[j2 (gN _ n hi)];exact hi) (by rw[j2 (gN _ n hi)];omega)
 have heq:h.out n (g h.l n).v=if n<((h.swap n (h.l.length-1)).pop (g h.l n).v).l.length then (((h.swap n (h.l.length-1)).pop (g h.l n).v).rise n).sink n else (h.swap n (h.l.length-1)).pop (g h.l n).v:=rfl
 rw[heq]
 by_cases hi:n<((h.swap n (h.l.length-1)).pop (g h.l n).v).l.length
 ·rw[if_pos hi]
  have hR:=hR hi;have hK:=hK hi;have b1:decide ((n:Int)<IntKind.wrap IntKind.i64 (((dJ (h.l.map dU)).length:Int)-1))=true:=decide_eq_true (by rw[hw];omega)
  clear heq hw hob hob2 hsl hqx hql hv hx;generalize (g h.l n).v=v at *;rw[bW room clock h];refine Fn.runO UW rfl rfl rfl ?_;generalize Tryz.prog=P at *
  (repeat' ((conv=>whnf);first|exact trivial|with_reducible refine zX ?_|refine⟨rfl,?_⟩|refine⟨_,rfl,?_⟩|with_reducible refine zP ?_|with_reducible refine zL ?_|refine⟨fun _=>?_,fun _=>?_⟩|refine zO ?_|refine zn ?_|refine zb rfl ?_|refine zX ?_|refine zo rfl ?_|refine zs ?_|intro _|((with_reducible show testB.match_1 (fun _=>Prop) _ _ _);refine dY (by (first|exact rfl|(simp only[aV,aL,aM,bC,aH,aQ,List.all_cons,List.all_nil,aG,a6,a7,aB,aC,aA,bA,aE,a8,Bool.or_true,Bool.true_and,Bool.and_true];done)|(simp only[aV,aL,aM,bC,aH,aQ,List.all_cons,List.all_nil,aG,a6,a7,aB,aC,aA,bA,aE,a8,Bool.or_true,Bool.true_and,Bool.and_true];exact rfl))) ?_)));all_goals (try (conv=>whnf))
  rw[f1]
  (repeat' ((conv=>whnf);first|exact trivial|with_reducible refine zX ?_|refine⟨rfl,?_⟩|refine⟨_,rfl,?_⟩|with_reducible refine zP ?_|with_reducible refine zL ?_|refine⟨fun _=>?_,fun _=>?_⟩|refine zO ?_|refine zn ?_|refine zb rfl ?_|refine zX ?_|refine zo rfl ?_|refine zs ?_|intro _|((with_reducible show testB.match_1 (fun _=>Prop) _ _ _);refine dY (by (first|exact rfl|(simp only[aV,aL,aM,bC,aH,aQ,List.all_cons,List.all_nil,aG,a6,a7,aB,aC,aA,bA,aE,a8,Bool.or_true,Bool.true_and,Bool.and_true];done)|(simp only[aV,aL,aM,bC,aH,aQ,List.all_cons,List.all_nil,aG,a6,a7,aB,aC,aA,bA,aE,a8,Bool.or_true,Bool.true_and,Bool.and_true];exact rfl))) ?_)));all_goals (try (conv=>whnf))
  rw[f3]
  (repeat' ((conv=>whnf);first|exact trivial|with_reducible refine zX ?_|refine⟨rfl,?_⟩|refine⟨_,rfl,?_⟩|with_reducible refine zP ?_|with_reducible refine zL ?_|refine⟨fun _=>?_,fun _=>?_⟩|refine zO ?_|refine zn ?_|refine zb rfl ?_|refine zX ?_|refine zo rfl ?_|refine zs ?_|intro _|((with_reducible show testB.match_1 (fun _=>Prop) _ _ _);refine dY (by (first|exact rfl|(simp only[aV,aL,aM,bC,aH,aQ,List.all_cons,List.all_nil,aG,a6,a7,aB,aC,aA,bA,aE,a8,Bool.or_true,Bool.true_and,Bool.and_true];done)|(simp only[aV,aL,aM,bC,aH,aQ,List.all_cons,List.all_nil,aG,a6,a7,aB,aC,aA,bA,aE,a8,Bool.or_true,Bool.true_and,Bool.and_true];exact rfl))) ?_)));all_goals (try (conv=>whnf))
  all_goals first
   |rfl
   |trace_state
 ·rw[if_neg hi]
  have b1:decide ((n:Int)<IntKind.wrap IntKind.i64 (((dJ (h.l.map dU)).length:Int)-1))=false:=decide_eq_false (by rw[hw];omega)
  clear heq hw hob hob2 hsl hqx hql hv hx hR hK;generalize (g h.l n).v=v at *;rw[bW room clock h];refine Fn.runO UW rfl rfl rfl ?_;generalize Tryz.prog=P at *
  (repeat' ((conv=>whnf);first|exact trivial|with_reducible refine zX ?_|refine⟨rfl,?_⟩|refine⟨_,rfl,?_⟩|with_reducible refine zP ?_|with_reducible refine zL ?_|refine⟨fun _=>?_,fun _=>?_⟩|refine zO ?_|refine zn ?_|refine zb rfl ?_|refine zX ?_|refine zo rfl ?_|refine zs ?_|intro _|((with_reducible show testB.match_1 (fun _=>Prop) _ _ _);refine dY (by (first|exact rfl|(simp only[aV,aL,aM,bC,aH,aQ,List.all_cons,List.all_nil,aG,a6,a7,aB,aC,aA,bA,aE,a8,Bool.or_true,Bool.true_and,Bool.and_true];done)|(simp only[aV,aL,aM,bC,aH,aQ,List.all_cons,List.all_nil,aG,a6,a7,aB,aC,aA,bA,aE,a8,Bool.or_true,Bool.true_and,Bool.and_true];exact rfl))) ?_)));all_goals (try (conv=>whnf))
  rw[f1]
  (repeat' ((conv=>whnf);first|exact trivial|with_reducible refine zX ?_|refine⟨rfl,?_⟩|refine⟨_,rfl,?_⟩|with_reducible refine zP ?_|with_reducible refine zL ?_|refine⟨fun _=>?_,fun _=>?_⟩|refine zO ?_|refine zn ?_|refine zb rfl ?_|refine zX ?_|refine zo rfl ?_|refine zs ?_|intro _|((with_reducible show testB.match_1 (fun _=>Prop) _ _ _);refine dY (by (first|exact rfl|(simp only[aV,aL,aM,bC,aH,aQ,List.all_cons,List.all_nil,aG,a6,a7,aB,aC,aA,bA,aE,a8,Bool.or_true,Bool.true_and,Bool.and_true];done)|(simp only[aV,aL,aM,bC,aH,aQ,List.all_cons,List.all_nil,aG,a6,a7,aB,aC,aA,bA,aE,a8,Bool.or_true,Bool.true_and,Bool.and_true];exact rfl))) ?_)));all_goals (try (conv=>whnf))
  rw[f3]
  (repeat' ((conv=>whnf);first|exact trivial|with_reducible refine zX ?_|refine⟨rfl,?_⟩|refine⟨_,rfl,?_⟩|with_reducible refine zP ?_|with_reducible refine zL ?_|refine⟨fun _=>?_,fun _=>?_⟩|refine zO ?_|refine zn ?_|refine zb rfl ?_|refine zX ?_|refine zo rfl ?_|refine zs ?_|intro _|((with_reducible show testB.match_1 (fun _=>Prop) _ _ _);refine dY (by (first|exact rfl|(simp only[aV,aL,aM,bC,aH,aQ,List.all_cons,List.all_nil,aG,a6,a7,aB,aC,aA,bA,aE,a8,Bool.or_true,Bool.true_and,Bool.and_true];done)|(simp only[aV,aL,aM,bC,aH,aQ,List.all_cons,List.all_nil,aG,a6,a7,aB,aC,aA,bA,aE,a8,Bool.or_true,Bool.true_and,Bool.and_true];exact rfl))) ?_)));all_goals (try (conv=>whnf))
  all_goals first
   |rfl
   |trace_state
theorem LG(room clock:Int)(h:Hp)(hn:0<h.l.length) :
  aX Tryz.prog 57 [.addr 0 4 0 0] [kC room clock h true] [some (kC room clock h false)] (.tup [.p (.int .i64 (g h.l 0).v),.p (.bool true)]):=by
 have hL:=OI room clock h;have b1:((h.l.length:Int) ==0)=false:=by simp;intro e;rw[e] at hn;simp at hn
 have r1:=it_row hn;have l1:=qL hn;have hq:=yO h.l;simp only[y6] at r1;rw[bW,bW] at *;refine Fn.runO W4 rfl rfl rfl ?_;generalize Tryz.prog=P at *
 (repeat' ((conv=>whnf);first|exact trivial|with_reducible refine zX ?_|refine⟨rfl,?_⟩|refine⟨_,rfl,?_⟩|with_reducible refine zP ?_|with_reducible refine zL ?_|refine⟨fun _=>?_,fun _=>?_⟩|refine zO ?_|refine zn ?_|refine zb rfl ?_|refine zX ?_|refine zo rfl ?_|refine zs ?_|intro _|((with_reducible show testB.match_1 (fun _=>Prop) _ _ _);refine dY (by (first|exact rfl|(simp only[aV,aL,aM,bC,aH,aQ,List.all_cons,List.all_nil,aG,a6,a7,aB,aC,aA,bA,aE,a8,Bool.or_true,Bool.true_and,Bool.and_true];done)|(simp only[aV,aL,aM,bC,aH,aQ,List.all_cons,List.all_nil,aG,a6,a7,aB,aC,aA,bA,aE,a8,Bool.or_true,Bool.true_and,Bool.and_true];exact rfl))) ?_)));all_goals (try (conv=>whnf))
 all_goals first
  |rfl
  |trace_state
theorem IO(room clock:Int)(h:Hp)(hn:h.l.length=0) :
  aX Tryz.prog 57 [.addr 0 4 0 0] [kC room clock h true] [some (kC room clock h false)] (.tup [.p (.int .i64 0),.p (.bool false)]):=by
 have hL:=OI room clock h;rw[hn] at hL;rw[bW,bW] at *;refine Fn.runO W4 rfl rfl rfl ?_;generalize Tryz.prog=P at *
 (repeat' ((conv=>whnf);first|exact trivial|with_reducible refine zX ?_|refine⟨rfl,?_⟩|refine⟨_,rfl,?_⟩|with_reducible refine zP ?_|with_reducible refine zL ?_|refine⟨fun _=>?_,fun _=>?_⟩|refine zO ?_|refine zn ?_|refine zb rfl ?_|refine zX ?_|refine zo rfl ?_|refine zs ?_|intro _|((with_reducible show testB.match_1 (fun _=>Prop) _ _ _);refine dY (by (first|exact rfl|(simp only[aV,aL,aM,bC,aH,aQ,List.all_cons,List.all_nil,aG,a6,a7,aB,aC,aA,bA,aE,a8,Bool.or_true,Bool.true_and,Bool.and_true];done)|(simp only[aV,aL,aM,bC,aH,aQ,List.all_cons,List.all_nil,aG,a6,a7,aB,aC,aA,bA,aE,a8,Bool.or_true,Bool.true_and,Bool.and_true];exact rfl))) ?_)));all_goals (try (conv=>whnf))
 all_goals first
  |rfl
  |trace_state
theorem I2(room:Int) :
  aX Tryz.prog 57 [.addr 0 4 0 0] [HB room true] [some (HB room false)] (.tup [.p (.int .i64 0),.p (.bool false)]):=by
 have hL:=JY room;rw[eP,eP] at *;refine Fn.runO W4 rfl rfl rfl ?_;generalize Tryz.prog=P at *
 (repeat' ((conv=>whnf);first|exact trivial|with_reducible refine zX ?_|refine⟨rfl,?_⟩|refine⟨_,rfl,?_⟩|with_reducible refine zP ?_|with_reducible refine zL ?_|refine⟨fun _=>?_,fun _=>?_⟩|refine zO ?_|refine zn ?_|refine zb rfl ?_|refine zX ?_|refine zo rfl ?_|refine zs ?_|intro _|((with_reducible show testB.match_1 (fun _=>Prop) _ _ _);refine dY (by (first|exact rfl|(simp only[aV,aL,aM,bC,aH,aQ,List.all_cons,List.all_nil,aG,a6,a7,aB,aC,aA,bA,aE,a8,Bool.or_true,Bool.true_and,Bool.and_true];done)|(simp only[aV,aL,aM,bC,aH,aQ,List.all_cons,List.all_nil,aG,a6,a7,aB,aC,aA,bA,aE,a8,Bool.or_true,Bool.true_and,Bool.and_true];exact rfl))) ?_)));all_goals (try (conv=>whnf))
 all_goals first
  |rfl
  |trace_state
theorem WC:aX Tryz.prog 54 [.p (.int .i64 1000)] [] [some (HB 1000 false)] (.addr 0 4 0 0):=by
 refine Fn.runO h54 rfl rfl rfl ?_;generalize Tryz.prog=P at *
 (repeat' ((conv=>whnf);first|exact trivial|with_reducible refine zX ?_|refine⟨rfl,?_⟩|refine⟨_,rfl,?_⟩|with_reducible refine zP ?_|with_reducible refine zL ?_|refine⟨fun _=>?_,fun _=>?_⟩|refine zO ?_|refine zn ?_|refine zb rfl ?_|refine zX ?_|refine zo rfl ?_|refine zs ?_|intro _|((with_reducible show testB.match_1 (fun _=>Prop) _ _ _);refine dY (by (first|exact rfl|(simp only[aV,aL,aM,bC,aH,aQ,List.all_cons,List.all_nil,aG,a6,a7,aB,aC,aA,bA,aE,a8,Bool.or_true,Bool.true_and,Bool.and_true];done)|(simp only[aV,aL,aM,bC,aH,aQ,List.all_cons,List.all_nil,aG,a6,a7,aB,aC,aA,bA,aE,a8,Bool.or_true,Bool.true_and,Bool.and_true];exact rfl))) ?_)));all_goals (try (conv=>whnf))
 all_goals first
  |rfl
  |trace_state
open Go.RowKit Ma
theorem XQ(room clock:Int)(h0 h:Hp)(hx:h.Ix)(v a b:Int)(d:Bool)(hv:bM h.ix v=none)(hroom:d=false->(h.l.length:Int)<room)(hlen:h.l.length<=999)
  (hD:aX Tryz.prog 56 [.addr 0 4 0 0,.p (.int .i64 v)] [kC room clock h0 true] [some (kC room clock h false)] (.p (.bool d))) :
  aX Tryz.prog 55 [.addr 0 4 0 0,.p (.int .i64 v),.p (.int .i64 a),.p (.int .i64 b)] [kC room clock h0 true]
   [some (kC room (IntKind.wrap IntKind.i64 (clock+1)) ((h.push ⟨v,a,b,IntKind.wrap IntKind.i64 (clock+1)⟩).rise h.l.length) false)] (.p (.bool true)):=by
 have hob:=fM h.l;have hm:=k6;have f1:=TE h.ix v ((dJ (h.l.map dU)).length:Int);have f2:=MN (dE h.ix v ((dJ (h.l.map dU)).length:Int));have hpx:=vB hx (x:=⟨v,a,b,IntKind.wrap IntKind.i64 (clock+1)⟩) hv;have hpl:(h.push ⟨v,a,b,IntKind.wrap IntKind.i64 (clock+1)⟩).l.length=h.l.length+1:=by simp[Hp.push]
 have hR:=EU room (IntKind.wrap IntKind.i64 (clock+1)) (h.push ⟨v,a,b,IntKind.wrap IntKind.i64 (clock+1)⟩) hpx h.l.length (by omega) (by omega)
 have hb0:kC room (IntKind.wrap IntKind.i64 (clock+1)) (h.push ⟨v,a,b,IntKind.wrap IntKind.i64 (clock+1)⟩) true=⟨true,4,[[.p (.int .i64 room),.ob (.sl 4 false (dJ ((h.l++[(⟨v,a,b,IntKind.wrap IntKind.i64 (clock+1)⟩:It)]).map dU))),.ob (.mp (mK (mI (dE h.ix v ((dJ (h.l.map dU)).length:Int)))) (mV (mI (dE h.ix v ((dJ (h.l.map dU)).length:Int))))),.p (.int .i64 (IntKind.wrap IntKind.i64 (clock+1)))]],true⟩:=by rw[hob];rfl
 rw[hb0] at hR;have hob2:(dJ ((h.l++[(⟨v,a,b,IntKind.wrap IntKind.i64 (clock+1)⟩:It)]).map dU)).length=h.l.length+1:=by rw[fM];simp
 have hw:((h.l.length:Nat):Int)=IntKind.wrap IntKind.i64 (((dJ ((h.l++[(⟨v,a,b,IntKind.wrap IntKind.i64 (clock+1)⟩:It)]).map dU)).length:Int)-1):=by rw[hob2,bJ (by omega) (by omega)];omega
 have hR2:∀j:Int,((h.l.length:Nat):Int)=j->aX Tryz.prog 87 [.addr 0 4 0 0,.p (.int .i64 j)] _ _ _:=fun j e=>e▸hR
 have hR3:=hR2 _ hw
 have hq:PQ (aY (dO (dJ (h.l.map dU)))++[y6 ⟨v,a,b,IntKind.wrap IntKind.i64 (clock+1)⟩]) ((dO (dJ (h.l.map dU))).length+1) (dJ ((h.l++[(⟨v,a,b,IntKind.wrap IntKind.i64 (clock+1)⟩:It)]).map dU)):=by
  rw[E8];exact⟨jT _,by rw[cA,cA,fM,fM];simp⟩
 have z1:((dO (dJ (h.l.map dU))).length+1)*32<=140737488355328:=by rw[cA,hob];omega
 have z2:(dO (dJ (h.l.map dU))).length+1<=maxLen:=by rw[cA,hob,hm];omega
 have z3:(dJ (h.l.map dU)).length=(dO (dJ (h.l.map dU))).length:=by rw[cA]
 have b1:d=false->decide (((dJ (h.l.map dU)).length:Int)≥room)=false:=fun e=>decide_eq_false (by have:=hroom e;rw[hob];omega)
 rw[bW room clock h] at hD;simp only[y6] at hq;clear hR hR2 hw hob hob2 hpl hpx hb0 hx hlen hroom
 cases d with
 |true=>
  clear b1;refine Fn.runO W8 rfl rfl rfl ?_;generalize Tryz.prog=P at *
  (repeat' ((conv=>whnf);first|exact trivial|with_reducible refine zX ?_|refine⟨rfl,?_⟩|refine⟨_,rfl,?_⟩|with_reducible refine zP ?_|with_reducible refine zL ?_|refine⟨fun _=>?_,fun _=>?_⟩|refine zO ?_|refine zn ?_|refine zb rfl ?_|refine zX ?_|refine zo rfl ?_|refine zs ?_|intro _|((with_reducible show testB.match_1 (fun _=>Prop) _ _ _);refine dY (by (first|exact rfl|(simp only[aV,aL,aM,bC,aH,aQ,List.all_cons,List.all_nil,aG,a6,a7,aB,aC,aA,bA,aE,a8,Bool.or_true,Bool.true_and,Bool.and_true];done)|(simp only[aV,aL,aM,bC,aH,aQ,List.all_cons,List.all_nil,aG,a6,a7,aB,aC,aA,bA,aE,a8,Bool.or_true,Bool.true_and,Bool.and_true];exact rfl))) ?_)));all_goals (try (conv=>whnf))
  conv in (iW _ _ _ _)=>arg 3;whnf
  rw[f1]
  (repeat' ((conv=>whnf);first|exact trivial|with_reducible refine zX ?_|refine⟨rfl,?_⟩|refine⟨_,rfl,?_⟩|with_reducible refine zP ?_|with_reducible refine zL ?_|refine⟨fun _=>?_,fun _=>?_⟩|refine zO ?_|refine zn ?_|refine zb rfl ?_|refine zX ?_|refine zo rfl ?_|refine zs ?_|intro _|((with_reducible show testB.match_1 (fun _=>Prop) _ _ _);refine dY (by (first|exact rfl|(simp only[aV,aL,aM,bC,aH,aQ,List.all_cons,List.all_nil,aG,a6,a7,aB,aC,aA,bA,aE,a8,Bool.or_true,Bool.true_and,Bool.and_true];done)|(simp only[aV,aL,aM,bC,aH,aQ,List.all_cons,List.all_nil,aG,a6,a7,aB,aC,aA,bA,aE,a8,Bool.or_true,Bool.true_and,Bool.and_true];exact rfl))) ?_)));all_goals (try (conv=>whnf))
  all_goals first
   |rfl
   |trace_state
 |false=>
  have b1:=b1 rfl;refine Fn.runO W8 rfl rfl rfl ?_;generalize Tryz.prog=P at *
  (repeat' ((conv=>whnf);first|exact trivial|with_reducible refine zX ?_|refine⟨rfl,?_⟩|refine⟨_,rfl,?_⟩|with_reducible refine zP ?_|with_reducible refine zL ?_|refine⟨fun _=>?_,fun _=>?_⟩|refine zO ?_|refine zn ?_|refine zb rfl ?_|refine zX ?_|refine zo rfl ?_|refine zs ?_|intro _|((with_reducible show testB.match_1 (fun _=>Prop) _ _ _);refine dY (by (first|exact rfl|(simp only[aV,aL,aM,bC,aH,aQ,List.all_cons,List.all_nil,aG,a6,a7,aB,aC,aA,bA,aE,a8,Bool.or_true,Bool.true_and,Bool.and_true];done)|(simp only[aV,aL,aM,bC,aH,aQ,List.all_cons,List.all_nil,aG,a6,a7,aB,aC,aA,bA,aE,a8,Bool.or_true,Bool.true_and,Bool.and_true];exact rfl))) ?_)));all_goals (try (conv=>whnf))
  conv in (iW _ _ _ _)=>arg 3;whnf
  rw[f1]
  (repeat' ((conv=>whnf);first|exact trivial|with_reducible refine zX ?_|refine⟨rfl,?_⟩|refine⟨_,rfl,?_⟩|with_reducible refine zP ?_|with_reducible refine zL ?_|refine⟨fun _=>?_,fun _=>?_⟩|refine zO ?_|refine zn ?_|refine zb rfl ?_|refine zX ?_|refine zo rfl ?_|refine zs ?_|intro _|((with_reducible show testB.match_1 (fun _=>Prop) _ _ _);refine dY (by (first|exact rfl|(simp only[aV,aL,aM,bC,aH,aQ,List.all_cons,List.all_nil,aG,a6,a7,aB,aC,aA,bA,aE,a8,Bool.or_true,Bool.true_and,Bool.and_true];done)|(simp only[aV,aL,aM,bC,aH,aQ,List.all_cons,List.all_nil,aG,a6,a7,aB,aC,aA,bA,aE,a8,Bool.or_true,Bool.true_and,Bool.and_true];exact rfl))) ?_)));all_goals (try (conv=>whnf))
  all_goals first
   |rfl
   |trace_state
theorem RM(room:Int)(v a b:Int)(hroom:1<=room) :
  aX Tryz.prog 55 [.addr 0 4 0 0,.p (.int .i64 v),.p (.int .i64 a),.p (.int .i64 b)] [HB room true] [some (kC room (IntKind.wrap IntKind.i64 (0+1)) ((hp0.push ⟨v,a,b,IntKind.wrap IntKind.i64 (0+1)⟩).rise 0) false)] (.p (.bool true)):=by
 have hD:=O2 room v;have hm:=k6;have b1:decide ((([]:List PV).length:Int)≥room)=false:=decide_eq_false (by simp;omega)
 have hpx:=vB hp0_ok.ix (x:=⟨v,a,b,IntKind.wrap IntKind.i64 (0+1)⟩) rfl;have hR:=EU room (IntKind.wrap IntKind.i64 (0+1)) (hp0.push ⟨v,a,b,IntKind.wrap IntKind.i64 (0+1)⟩) hpx 0 (by simp[Hp.push,hp0]) (by simp[Hp.push,hp0])
 have hq:PQ [y6 ⟨v,a,b,IntKind.wrap IntKind.i64 (0+1)⟩] 1 (dJ ([(⟨v,a,b,IntKind.wrap IntKind.i64 (0+1)⟩:It)].map dU)):=⟨rfl,rfl⟩;have f2:BH [[.p (.int .i64 v),.p (.int .i64 ((0:Nat):Int))]]=some (mK (mI (hp0.push ⟨v,a,b,IntKind.wrap IntKind.i64 (0+1)⟩).ix),mV (mI (hp0.push ⟨v,a,b,IntKind.wrap IntKind.i64 (0+1)⟩).ix)):=rfl;rw[eP] at hD;refine Fn.runO W8 rfl rfl rfl ?_;generalize Tryz.prog=P at *
 (repeat' ((conv=>whnf);first|exact trivial|with_reducible refine zX ?_|refine⟨rfl,?_⟩|refine⟨_,rfl,?_⟩|with_reducible refine zP ?_|with_reducible refine zL ?_|refine⟨fun _=>?_,fun _=>?_⟩|refine zO ?_|refine zn ?_|refine zb rfl ?_|refine zX ?_|refine zo rfl ?_|refine zs ?_|intro _|((with_reducible show testB.match_1 (fun _=>Prop) _ _ _);refine dY (by (first|exact rfl|(simp only[aV,aL,aM,bC,aH,aQ,List.all_cons,List.all_nil,aG,a6,a7,aB,aC,aA,bA,aE,a8,Bool.or_true,Bool.true_and,Bool.and_true];done)|(simp only[aV,aL,aM,bC,aH,aQ,List.all_cons,List.all_nil,aG,a6,a7,aB,aC,aA,bA,aE,a8,Bool.or_true,Bool.true_and,Bool.and_true];exact rfl))) ?_)));all_goals (try (conv=>whnf))
 all_goals first
  |rfl
  |exact(List.cons_ne_nil _ _ (by assumption)).elim
  |trace_state
open Go.RowKit Ma
def rW(clock:Int)(h:Hp)(old:Bool):Box:=⟨true,1,[[.ob (.ptr [.p (.int .i64 1000),.sl 4 false (dJ (h.l.map dU)),.mp (mK (mI h.ix)) (mV (mI h.ix)),.p (.int .i64 clock)])]],old⟩
theorem iL(clock:Int)(h:Hp)(old:Bool):rW clock h old=⟨true,1,[[.ob (.ptr [.p (.int .i64 1000),.sl 4 false (dJ (h.l.map dU)),.mp (mK (mI h.ix)) (mV (mI h.ix)),.p (.int .i64 clock)])]],old⟩:=rfl
def xZ(old:Bool):Box:=⟨true,1,[[.ob (.ptr [.p (.int .i64 1000),.p (.sl 4 true []),.mp [] [],.p (.int .i64 0)])]],old⟩
theorem mN(old:Bool):xZ old=⟨true,1,[[.ob (.ptr [.p (.int .i64 1000),.p (.sl 4 true []),.mp [] [],.p (.int .i64 0)])]],old⟩:=rfl
theorem WE:aX Tryz.prog 27 [] [] [some (xZ false)] (.addr 0 1 0 0):=by
 have h:=WC;refine Fn.runO h27 rfl rfl rfl ?_;generalize Tryz.prog=P at *
 (repeat' ((conv=>whnf);first|exact trivial|with_reducible refine zX ?_|refine⟨rfl,?_⟩|refine⟨_,rfl,?_⟩|with_reducible refine zP ?_|with_reducible refine zL ?_|refine⟨fun _=>?_,fun _=>?_⟩|refine zO ?_|refine zn ?_|refine zb rfl ?_|refine zX ?_|refine zo rfl ?_|refine zs ?_|intro _|((with_reducible show testB.match_1 (fun _=>Prop) _ _ _);refine dY (by (first|exact rfl|(simp only[aV,aL,aM,bC,aH,aQ,List.all_cons,List.all_nil,aG,a6,a7,aB,aC,aA,bA,aE,a8,Bool.or_true,Bool.true_and,Bool.and_true];done)|(simp only[aV,aL,aM,bC,aH,aQ,List.all_cons,List.all_nil,aG,a6,a7,aB,aC,aA,bA,aE,a8,Bool.or_true,Bool.true_and,Bool.and_true];exact rfl))) ?_)));all_goals (try (conv=>whnf))
 all_goals first
  |rfl
  |trace_state
theorem I9(clock:Int)(h:Hp)(hx:h.Ix)(v a:Int)(h1:1<=v)(hv:bM h.ix v=none)(hlen:h.l.length<=900) :
  aX Tryz.prog 28 [.addr 0 1 0 0,.p (.int .i64 v),.p (.int .i64 a)] [rW clock h true] [some (rW (IntKind.wrap IntKind.i64 (clock+1)) ((h.push ⟨v,a,v,IntKind.wrap IntKind.i64 (clock+1)⟩).rise h.l.length) false)] (.p (.bool true)):=by
 have hP:=XQ 1000 clock h h hx v a v false hv (fun _=>by omega) (by omega) (MP 1000 clock h v hv)
 have b1:decide (v≥1)=true:=decide_eq_true h1;rw[bW] at hP;rw[iL clock h];refine Fn.runO Z5 rfl rfl rfl ?_;generalize Tryz.prog=P at *
 (repeat' ((conv=>whnf);first|exact trivial|with_reducible refine zX ?_|refine⟨rfl,?_⟩|refine⟨_,rfl,?_⟩|with_reducible refine zP ?_|with_reducible refine zL ?_|refine⟨fun _=>?_,fun _=>?_⟩|refine zO ?_|refine zn ?_|refine zb rfl ?_|refine zX ?_|refine zo rfl ?_|refine zs ?_|intro _|((with_reducible show testB.match_1 (fun _=>Prop) _ _ _);refine dY (by (first|exact rfl|(simp only[aV,aL,aM,bC,aH,aQ,List.all_cons,List.all_nil,aG,a6,a7,aB,aC,aA,bA,aE,a8,Bool.or_true,Bool.true_and,Bool.and_true];done)|(simp only[aV,aL,aM,bC,aH,aQ,List.all_cons,List.all_nil,aG,a6,a7,aB,aC,aA,bA,aE,a8,Bool.or_true,Bool.true_and,Bool.and_true];exact rfl))) ?_)));all_goals (try (conv=>whnf))
 all_goals first
  |rfl
  |trace_state
theorem IY(v a:Int)(h1:1<=v) :
  aX Tryz.prog 28 [.addr 0 1 0 0,.p (.int .i64 v),.p (.int .i64 a)] [xZ true] [some (rW (IntKind.wrap IntKind.i64 (0+1)) ((hp0.push ⟨v,a,v,IntKind.wrap IntKind.i64 (0+1)⟩).rise 0) false)] (.p (.bool true)):=by
 have hP:=RM 1000 v a v (by decide)
 have b1:decide (v≥1)=true:=decide_eq_true h1;rw[eP] at hP;rw[mN];refine Fn.runO Z5 rfl rfl rfl ?_;generalize Tryz.prog=P at *
 (repeat' ((conv=>whnf);first|exact trivial|with_reducible refine zX ?_|refine⟨rfl,?_⟩|refine⟨_,rfl,?_⟩|with_reducible refine zP ?_|with_reducible refine zL ?_|refine⟨fun _=>?_,fun _=>?_⟩|refine zO ?_|refine zn ?_|refine zb rfl ?_|refine zX ?_|refine zo rfl ?_|refine zs ?_|intro _|((with_reducible show testB.match_1 (fun _=>Prop) _ _ _);refine dY (by (first|exact rfl|(simp only[aV,aL,aM,bC,aH,aQ,List.all_cons,List.all_nil,aG,a6,a7,aB,aC,aA,bA,aE,a8,Bool.or_true,Bool.true_and,Bool.and_true];done)|(simp only[aV,aL,aM,bC,aH,aQ,List.all_cons,List.all_nil,aG,a6,a7,aB,aC,aA,bA,aE,a8,Bool.or_true,Bool.true_and,Bool.and_true];exact rfl))) ?_)));all_goals (try (conv=>whnf))
 all_goals first
  |rfl
  |trace_state
theorem HI(clock:Int)(h:Hp)(hx:h.Ix)(n:Nat)(hn:n<h.l.length)(hlen:h.l.length<=1000) :
  aX Tryz.prog 29 [.addr 0 1 0 0,.p (.int .i64 (g h.l n).v)] [rW clock h true] [some (rW clock (h.out n (g h.l n).v) false)] (.p (.bool true)):=by
 have hD:=QS 1000 clock h hx n hn hlen;generalize h.out n (g h.l n).v=h' at *;generalize (g h.l n).v=v at *;rw[bW,bW] at hD;rw[iL,iL];refine Fn.runO h29 rfl rfl rfl ?_;generalize Tryz.prog=P at *
 (repeat' ((conv=>whnf);first|exact trivial|with_reducible refine zX ?_|refine⟨rfl,?_⟩|refine⟨_,rfl,?_⟩|with_reducible refine zP ?_|with_reducible refine zL ?_|refine⟨fun _=>?_,fun _=>?_⟩|refine zO ?_|refine zn ?_|refine zb rfl ?_|refine zX ?_|refine zo rfl ?_|refine zs ?_|intro _|((with_reducible show testB.match_1 (fun _=>Prop) _ _ _);refine dY (by (first|exact rfl|(simp only[aV,aL,aM,bC,aH,aQ,List.all_cons,List.all_nil,aG,a6,a7,aB,aC,aA,bA,aE,a8,Bool.or_true,Bool.true_and,Bool.and_true];done)|(simp only[aV,aL,aM,bC,aH,aQ,List.all_cons,List.all_nil,aG,a6,a7,aB,aC,aA,bA,aE,a8,Bool.or_true,Bool.true_and,Bool.and_true];exact rfl))) ?_)));all_goals (try (conv=>whnf))
 all_goals first
  |rfl
  |trace_state
theorem FT(clock:Int)(h:Hp)(r:Int)(is:Bool)(hF:aX Tryz.prog 57 [.addr 0 4 0 0] [kC 1000 clock h true] [some (kC 1000 clock h false)] (.tup [.p (.int .i64 r),.p (.bool is)])) :
  aX Tryz.prog 30 [.addr 0 1 0 0] [rW clock h true] [some (rW clock h false)] (.p (.int .i64 r)):=by
 rw[bW,bW] at hF;rw[iL,iL];refine Fn.runO XY rfl rfl rfl ?_;generalize Tryz.prog=P at *
 (repeat' ((conv=>whnf);first|exact trivial|with_reducible refine zX ?_|refine⟨rfl,?_⟩|refine⟨_,rfl,?_⟩|with_reducible refine zP ?_|with_reducible refine zL ?_|refine⟨fun _=>?_,fun _=>?_⟩|refine zO ?_|refine zn ?_|refine zb rfl ?_|refine zX ?_|refine zo rfl ?_|refine zs ?_|intro _|((with_reducible show testB.match_1 (fun _=>Prop) _ _ _);refine dY (by (first|exact rfl|(simp only[aV,aL,aM,bC,aH,aQ,List.all_cons,List.all_nil,aG,a6,a7,aB,aC,aA,bA,aE,a8,Bool.or_true,Bool.true_and,Bool.and_true];done)|(simp only[aV,aL,aM,bC,aH,aQ,List.all_cons,List.all_nil,aG,a6,a7,aB,aC,aA,bA,aE,a8,Bool.or_true,Bool.true_and,Bool.and_true];exact rfl))) ?_)));all_goals (try (conv=>whnf))
 all_goals first
  |rfl
  |trace_state
theorem OG:aX Tryz.prog 30 [.addr 0 1 0 0] [xZ true] [some (xZ false)] (.p (.int .i64 0)):=by
 have hF:=I2 1000;rw[eP,eP] at hF;rw[mN,mN];refine Fn.runO XY rfl rfl rfl ?_;generalize Tryz.prog=P at *
 (repeat' ((conv=>whnf);first|exact trivial|with_reducible refine zX ?_|refine⟨rfl,?_⟩|refine⟨_,rfl,?_⟩|with_reducible refine zP ?_|with_reducible refine zL ?_|refine⟨fun _=>?_,fun _=>?_⟩|refine zO ?_|refine zn ?_|refine zb rfl ?_|refine zX ?_|refine zo rfl ?_|refine zs ?_|intro _|((with_reducible show testB.match_1 (fun _=>Prop) _ _ _);refine dY (by (first|exact rfl|(simp only[aV,aL,aM,bC,aH,aQ,List.all_cons,List.all_nil,aG,a6,a7,aB,aC,aA,bA,aE,a8,Bool.or_true,Bool.true_and,Bool.and_true];done)|(simp only[aV,aL,aM,bC,aH,aQ,List.all_cons,List.all_nil,aG,a6,a7,aB,aC,aA,bA,aE,a8,Bool.or_true,Bool.true_and,Bool.and_true];exact rfl))) ?_)));all_goals (try (conv=>whnf))
 all_goals first
  |rfl
  |trace_state
theorem U7(clock:Int)(h:Hp):aX Tryz.prog 31 [.addr 0 1 0 0] [rW clock h true] [some (rW clock h false)] (.p (.int .i64 h.l.length)):=by
 have hF:=OI 1000 clock h;rw[bW,bW] at hF;rw[iL,iL];refine Fn.runO h31 rfl rfl rfl ?_;generalize Tryz.prog=P at *
 (repeat' ((conv=>whnf);first|exact trivial|with_reducible refine zX ?_|refine⟨rfl,?_⟩|refine⟨_,rfl,?_⟩|with_reducible refine zP ?_|with_reducible refine zL ?_|refine⟨fun _=>?_,fun _=>?_⟩|refine zO ?_|refine zn ?_|refine zb rfl ?_|refine zX ?_|refine zo rfl ?_|refine zs ?_|intro _|((with_reducible show testB.match_1 (fun _=>Prop) _ _ _);refine dY (by (first|exact rfl|(simp only[aV,aL,aM,bC,aH,aQ,List.all_cons,List.all_nil,aG,a6,a7,aB,aC,aA,bA,aE,a8,Bool.or_true,Bool.true_and,Bool.and_true];done)|(simp only[aV,aL,aM,bC,aH,aQ,List.all_cons,List.all_nil,aG,a6,a7,aB,aC,aA,bA,aE,a8,Bool.or_true,Bool.true_and,Bool.and_true];exact rfl))) ?_)));all_goals (try (conv=>whnf))
 all_goals first
  |rfl
  |trace_state
theorem TW:aX Tryz.prog 31 [.addr 0 1 0 0] [xZ true] [some (xZ false)] (.p (.int .i64 0)):=by
 have hF:=JY 1000;rw[eP,eP] at hF;rw[mN,mN];refine Fn.runO h31 rfl rfl rfl ?_;generalize Tryz.prog=P at *
 (repeat' ((conv=>whnf);first|exact trivial|with_reducible refine zX ?_|refine⟨rfl,?_⟩|refine⟨_,rfl,?_⟩|with_reducible refine zP ?_|with_reducible refine zL ?_|refine⟨fun _=>?_,fun _=>?_⟩|refine zO ?_|refine zn ?_|refine zb rfl ?_|refine zX ?_|refine zo rfl ?_|refine zs ?_|intro _|((with_reducible show testB.match_1 (fun _=>Prop) _ _ _);refine dY (by (first|exact rfl|(simp only[aV,aL,aM,bC,aH,aQ,List.all_cons,List.all_nil,aG,a6,a7,aB,aC,aA,bA,aE,a8,Bool.or_true,Bool.true_and,Bool.and_true];done)|(simp only[aV,aL,aM,bC,aH,aQ,List.all_cons,List.all_nil,aG,a6,a7,aB,aC,aA,bA,aE,a8,Bool.or_true,Bool.true_and,Bool.and_true];exact rfl))) ?_)));all_goals (try (conv=>whnf))
 all_goals first
  |rfl
  |trace_state
inductive Bn where
 |z
 |x (clock:Int) (h:Hp)
def Bn.cells:Bn->List Ob
 | .z=>[.p (.int .i64 1000),.p (.sl 4 true []),.mp [] [],.p (.int .i64 0)]
 | .x c h=>[.p (.int .i64 1000),.sl 4 false (dJ (h.l.map dU)),.mp (mK (mI h.ix)) (mV (mI h.ix)),.p (.int .i64 c)]
def Bn.box(b:Bn)(old:Bool):Box:=⟨true,1,[[.ob (.ptr b.cells)]],old⟩
def Bn.Is:Bn->List (Int×Int)->Prop
 | .z,S=>S=[]
 | .x _ h,S=>h.Ok/\(h.l.map fun y=>(y.v,y.a)).Perm S/\∀y,y∈h.l->y.b=y.v
theorem FH{l:List It}{n:Nat}(h:n<l.length):g l n∈l:=bR (AL h)
theorem OH{h:Hp}(hk:h.Ok){S:List (Int×Int)}(hp:(h.l.map fun y=>(y.v,y.a)).Perm S){v:Int}(hv:∀p,p∈S->p.1≠v):bM h.ix v=none:=by
 cases e:bM h.ix v with
 |none=>rfl
 |some y=>
  obtain⟨n,_,hn,hnv⟩:=J1 hk.ix e;exact absurd hnv (hv _ (hp.mem_iff.1 (List.mem_map.2 ⟨g h.l n,FH hn,rfl⟩)))
theorem CJ{b:Bn}{S:List (Int×Int)}(h:b.Is S)(v a:Int)(h1:1<=v)(hv:∀p,p∈S->p.1≠v)(hlen:S.length<=900) :
  ∃b':Bn,b'.Is (S++[(v,a)])/\aX Tryz.prog 28 [.addr 0 1 0 0,.p (.int .i64 v),.p (.int .i64 a)] [b.box true] [some (b'.box false)] (.p (.bool true)):=by
 cases b with
 |z=>
  have h:S=[]:=h;subst h;have hk:=AA hp0_ok (x:=⟨v,a,v,IntKind.wrap IntKind.i64 (0+1)⟩) rfl;refine⟨.x (IntKind.wrap IntKind.i64 (0+1)) _,⟨hk.1,(hk.2.map _).trans (by simp[hp0]),fun y hy=>?_⟩,IY v a h1⟩
  have:=hk.2.mem_iff.1 hy;simp[hp0] at this;subst this;rfl
 |x c h'=>
  obtain⟨hk,hp,hb⟩:=h;have hn:=OH hk hp hv;have hl:h'.l.length=S.length:=by rw[<-hp.length_eq];simp
  have hk2:=AA hk (x:=⟨v,a,v,IntKind.wrap IntKind.i64 (c+1)⟩) hn;refine⟨.x (IntKind.wrap IntKind.i64 (c+1)) _,⟨hk2.1,?_,fun y hy=>?_⟩,I9 c h' hk.ix v a h1 hn (by omega)⟩
  ·refine(hk2.2.map _).trans ?_
   rw[List.map_append];exact hp.append_right _
  ·have:=hk2.2.mem_iff.1 hy
   rcases List.mem_append.1 this with hy|hy
   ·exact hb y hy
   ·rw[List.mem_singleton] at hy
    subst hy;rfl
theorem E1{b:Bn}{S:List (Int×Int)}(h:b.Is S){v a:Int}(hv:(v,a)∈S)(hnd:(S.map (·.1)).Nodup)(hlen:S.length<=900) :
  ∃(b':Bn) (S':List (Int×Int)),((v,a) ::S').Perm S/\b'.Is S'/\aX Tryz.prog 29 [.addr 0 1 0 0,.p (.int .i64 v)] [b.box true] [some (b'.box false)] (.p (.bool true)):=by
 cases b with
 |z=>have h:S=[]:=h;subst h;exact absurd hv List.not_mem_nil
 |x c h'=>
  obtain⟨hk,hp,hb⟩:=h;have hl:h'.l.length=S.length:=by rw[<-hp.length_eq];simp
  obtain⟨y,hy,e⟩:=List.mem_map.1 (hp.mem_iff.2 hv);obtain⟨n,hn⟩:=List.getElem?_of_mem hy;have hn2:=(bH.1 hn).1;have hg:g h'.l n=y:=Option.some.inj ((AL hn2).symm.trans hn);injection e with e1 e2
  have ho:=NS hk hn2;have hL:=HI c h' hk.ix n hn2 (by omega)
  rw[hg] at ho hL;rw[e1] at ho hL;refine⟨.x c _,_,?_,⟨ho.1,List.Perm.refl _,fun z hz=>hb z (ho.2.mem_iff.1 (List.mem_cons_of_mem _ hz))⟩,hL⟩
  have:=(ho.2.map fun y=>(y.v,y.a)).trans hp
  rw[List.map_cons,e1,e2] at this;exact this
theorem D4{b:Bn}{S:List (Int×Int)}(h:b.Is S)(hne:S≠[]):∃v a:Int,(v,a)∈S/\(∀p,p∈S->a<p.2\/(a=p.2/\v<=p.1)) /\
  aX Tryz.prog 30 [.addr 0 1 0 0] [b.box true] [some (b.box false)] (.p (.int .i64 v)):=by
 cases b with
 |z=>exact absurd h hne
 |x c h'=>
  obtain⟨hk,hp,hb⟩:=h;have hl:h'.l.length=S.length:=by rw[<-hp.length_eq];simp
  have h0:0<h'.l.length:=by
   cases S with
   |nil=>exact absurd rfl hne
   |cons _ _=>rw[hl];simp
  refine⟨(g h'.l 0).v,(g h'.l 0).a,hp.mem_iff.1 (List.mem_map.2 ⟨_,FH h0,rfl⟩),fun p hpS=>?_,FT c h' _ true (LG 1000 c h' h0)⟩
  obtain⟨y,hy,rfl⟩:=List.mem_map.1 (hp.mem_iff.2 hpS);obtain⟨n,hn⟩:=List.getElem?_of_mem hy;have hn2:=(bH.1 hn).1;have hg:g h'.l n=y:=Option.some.inj ((AL hn2).symm.trans hn);have hle:=xU hk.heap n hn2
  rw[hg] at hle;have e1:=hb _ (FH h0);have e2:=hb y hy;unfold Le at hle;simp only;omega
theorem D0{b:Bn}(h:b.Is []):aX Tryz.prog 30 [.addr 0 1 0 0] [b.box true] [some (b.box false)] (.p (.int .i64 0)):=by
 cases b with
 |z=>exact OG
 |x c h'=>exact FT c h' 0 false (IO 1000 c h' (by have:=h.2.1.length_eq;simpa using this))
theorem T9{b:Bn}{S:List (Int×Int)}(h:b.Is S):aX Tryz.prog 31 [.addr 0 1 0 0] [b.box true] [some (b.box false)] (.p (.int .i64 S.length)):=by
 cases b with
 |z=>have h:S=[]:=h;subst h;exact TW
 |x c h'=>
  have:=U7 c h';rw[show h'.l.length=S.length by rw[<-h.2.1.length_eq];simp] at this
  exact this
end Go.Proofs.YtnjphclbpgajpaaGreatDoor.Vc
