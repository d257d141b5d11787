/- Part of a proof over a Go program: VcRun, JoinLay, Ext, Ex2, Tbl. No condition. -/
import Derived.Test.YtnjphclbpgajpaaGreatDoorX08
import Derived.Shelf.Strings.Builder1
import Derived.Shelf.Strings.Builder2
import Derived.Shelf.Strings.OnBuilder
import Derived.Shelf.LaysM
import Derived.Ground.Names2Prog
import Derived.Test.YtnjphclbpgajpaaGreatDoorProg
import Derived.Lib.Bytealg
import Derived.Laws.Externs
import Derived.Test.YtnjphclbpgajpaaGreatDoorX09
import Derived.Test.YtnjphclbpgajpaaGreatDoorX10
set_option linter.unnecessarySimpa false
set_option linter.unusedSectionVars false
set_option linter.unusedSimpArgs false
set_option linter.unusedVariables false
set_option maxRecDepth 100000
namespace Go.Proofs.YtnjphclbpgajpaaGreatDoor.Vc
open Go.RowKit
variable {P:Program}
section force
variable {R:Type}
def eK(n:Nat)(K:Nat->R):R:=match n with
 |0=>K 0
 |n+1=>K (n+1)
theorem cC(n:Nat)(K:Nat->R):eK n K=K n:=by cases n<;>rfl
def IS(n:Int)(K:Int->R):R:=match n with
 | .ofNat m=>eK m fun m=>K (.ofNat m)
 | .negSucc m=>eK m fun m=>K (.negSucc m)
theorem zD(n:Int)(K:Int->R):IS n K=K n:=by cases n<;>simp[IS,cC]
def wY(n:Bool)(K:Bool->R):R:=match n with
 |true=>K true
 |false=>K false
theorem o8(n:Bool)(K:Bool->R):wY n K=K n:=by cases n<;>rfl
def fO{α:Type}:List α->(List α->R)->R
 |[],K=>K []
 |x ::xs,K=>fO xs fun ys=>K (x ::ys)
theorem fN{α:Type}(l:List α)(K:List α->R):fO l K=K l:=by
 induction l generalizing K with
 |nil=>rfl
 |cons x xs ih=>simp only[fO];rw[ih]
def yK:List UInt8->(List UInt8->R)->R
 |[],K=>K []
 |x ::xs,K=>eK x.toNat fun n=>yK xs fun ys=>K (UInt8.ofNat n ::ys)
theorem GT(l:List UInt8)(K:List UInt8->R):yK l K=K l:=by
 induction l generalizing K with
 |nil=>rfl
 |cons x xs ih=>simp only[yK,cC];rw[ih];simp
def RD(s:ByteArray)(K:ByteArray->R):R:=yK s.data.toList fun l=>K ⟨⟨l⟩⟩
theorem L6(s:ByteArray)(K:ByteArray->R):RD s K=K s:=by
 unfold RD;rw[GT]
def YL(x:PV)(K:PV->R):R:=match x with
 | .int k n=>IS n fun n=>K (.int k n)
 | .bool b=>wY b fun b=>K (.bool b)
 | .str s=>RD s fun s=>K (.str s)
 | .atom v=>K (.atom v)
 | .agg cs=>fO cs fun cs=>K (.agg cs)
 | .sl n b rows=>wY b fun b=>fO rows fun rows=>K (.sl n b rows)
 | .fn f caps=>fO caps fun caps=>K (.fn f caps)
 | .ptr cells off=>fO cells fun cells=>eK off fun off=>K (.ptr cells off)
theorem IB(x:PV)(K:PV->R):YL x K=K x:=by cases x<;>simp[YL,zD,o8,L6,fN,cC]
def KU(v:DV)(K:DV->R):R:=match v with
 | .top=>K .top
 | .p x=>YL x fun x=>K (.p x)
 | .ow a b c=>wY b fun b=>fO c fun c=>K (.ow a b c)
 | .tup ds=>fO ds fun ds=>K (.tup ds)
 | .addr a b c d=>eK a fun a=>eK c fun c=>eK d fun d=>K (.addr a b c d)
 | .bs a b c d e=>eK a fun a=>eK d fun d=>eK e fun e=>K (.bs a b c d e)
 | .fn f cs=>fO cs fun cs=>K (.fn f cs)
 | .mh k=>eK k fun k=>K (.mh k)
 | .ob T=>K (.ob T)
 | .pk o=>K (.pk o)
 | .agd cs=>K (.agd cs)
theorem pZ(v:DV)(K:DV->R):KU v K=K v:=by cases v<;>simp[KU,IB,o8,fN,cC]
def EO:List (List DV)->(List (List DV)->R)->R
 |[],K=>K []
 |x ::xs,K=>fO x fun x=>EO xs fun ys=>K (x ::ys)
theorem IM(l:List (List DV))(K:List (List DV)->R):EO l K=K l:=by
 induction l generalizing K with
 |nil=>rfl
 |cons x xs ih=>simp only[EO,fN];rw[ih]
def rL(b:Option Box)(K:Option Box->R):R:=match b with
 |none=>K none
 |some ⟨l,s,rows,o⟩=>wY l fun l=>EO rows fun rows=>K (some ⟨l,s,rows,o⟩)
theorem fH(b:Option Box)(K:Option Box->R):rL b K=K b:=by
 cases b with
 |none=>rfl
 |some b=>cases b;simp[rL,o8,IM]
def pN{α:Type}:List α->Nat -> α->(List α->R)->R
 |[],_,_,K=>K []
 |_ ::xs,0,v,K=>K (v ::xs)
 |x ::xs,n+1,v,K=>pN xs n v fun ys=>K (x ::ys)
theorem jY{α:Type}(l:List α)(n:Nat)(v : α)(K:List α->R):pN l n v K=K (aF l n v):=by
 induction l generalizing n K with
 |nil=>rfl
 |cons x xs ih=>cases n with
  |zero=>rfl
  |succ n=>simp only[pN,aF];rw[ih]
end force
def pB(k:IntKind)(n:Int):Int:=match k with
 | .i64=>bif decide (-9223372036854775808<=n)&&decide (n<=9223372036854775807) then n else k.wrap n
 |k=>k.wrap n
theorem u5(k:IntKind)(n:Int):pB k n=k.wrap n:=by
 unfold pB
 split
 ·cases h:(decide (-9223372036854775808<=n)&&decide (n<=9223372036854775807))
  ·rfl
  ·simp only[aY,decide_eq_true_eq] at h
   exact(aJ h.1 h.2).symm
 ·rfl
def aG{R:Type}(A:Prop)[Decidable A](K:Option R):Option R:=if A then K else none
theorem aA{R:Type}{A:Prop}[Decidable A]{K:Option R}{r:R}(h:aG A K=some r):A/\K=some r:=by
 unfold aG at h
 split at h
 ·exact⟨by assumption,h⟩
 ·cases h
variable {R:Type}
structure Env where
 call:FuncId->List PV->Option DV
 callM:FuncId->Nat->List DV->List (List DV)->Option (List (List DV)×DV)
 callO:FuncId->List DV->List Box->Option (List (Option Box)×DV)
structure Env.OK (P:Program) (E:Env):Prop where
 call:∀f a d,E.call f a=some d->aB P f a d
 callM:∀f n a rows rows' d,E.callM f n a rows=some (rows',d)->EU P f n a rows rows' d
 callO:∀f a bs bs' d,E.callO f a bs=some (bs',d)->aM P f a bs bs' d
def OU(op:BinOp)(x y:PV)(K:PV->Option R):Option R :=
 match x,y with
 | .int k a,.int k' b=>match op with
  | .add=>aG (k=k') (K (.int k (pB k (a+b))))
  | .sub=>aG (k=k') (K (.int k (pB k (a-b))))
  | .mul=>aG (k=k') (K (.int k (pB k (a*b))))
  | .quo=>aG (k=k') (aG (b≠0) (K (.int k (pB k (a.tdiv b)))))
  | .rem=>aG (k=k') (aG (b≠0) (K (.int k (a.tmod b))))
  | .and=>aG (k=k') (K (.int k (aL .and k a b)))
  | .or=>aG (k=k') (K (.int k (aL .or k a b)))
  | .xor=>aG (k=k') (K (.int k (aL .xor k a b)))
  | .andNot=>aG (k=k') (K (.int k (aL .andNot k a b)))
  | .shl=>aG (0<=b) (K (.int k (pB k (a*2 ^ (min b.toNat k.bits)))))
  | .shr=>aG (0<=b) (K (.int k (a.fdiv (2 ^ (min b.toNat k.bits)))))
  | .eql=>aG (k=k') (K (.bool (a ==b)))
  | .neq=>aG (k=k') (K (.bool (a !=b)))
  | .lss=>aG (k=k') (K (.bool (decide (a<b))))
  | .leq=>aG (k=k') (K (.bool (decide (a<=b))))
  | .gtr=>aG (k=k') (K (.bool (decide (a>b))))
  | .geq=>aG (k=k') (K (.bool (decide (a≥b))))
 | .str a,.str b=>match op with
  | .eql=>K (.bool (a.toList ==b.toList))
  | .neq=>K (.bool !(a.toList ==b.toList))
  | .add=>aG (a.size+b.size<=140737488355328) (K (.str (a++b)))
  |_=>none
 |_,_=>none
theorem LU{op:BinOp}{x y:PV}{K:PV->Option R}{r:R}(h:OU op x y K=some r):jH op x y fun z=>K z=some r:=by
 unfold OU at h
 split at h
 ·cases op<;>simp only[u5] at h<;>simp only[jH]<;>first
   |exact aA h
   |(obtain⟨h1,h2⟩:=aA h;obtain⟨h2,h3⟩:=aA h2;exact⟨h1,h2,h3⟩)
 ·cases op<;>simp only[jH]<;>first|exact h|exact aA h|(simp at h)
 ·cases h
def C8(cells:List PV)(off n:Nat)(isAgg:Bool)(K:PV->Option R):Option R :=
 if isAgg then aG (off+n<=cells.length) (K (.agg (rJ cells off n)))
 else match cells[off]? with
  |some c=>K c
  |none=>none
theorem tT{cells:List PV}{off n:Nat}{isAgg:Bool}{K:PV->Option R}{r:R}(h:C8 cells off n isAgg K=some r):gB cells off n isAgg fun x=>K x=some r:=by
 unfold C8 at h;unfold gB
 split at h
 ·rename_i hi;rw[if_pos hi];exact aA h
 ·rename_i hi
  rw[if_neg hi]
  split at h
  ·exact⟨_,by assumption,h⟩
  ·cases h
def vF:List Nat->(List Nat->Option R)->Option R
 |[],K=>K []
 |x ::xs,K=>eK x fun x=>vF xs fun ys=>K (x ::ys)
theorem BA(l:List Nat)(K:List Nat->Option R):vF l K=K l:=by
 induction l generalizing K with
 |nil=>rfl
 |cons x xs ih=>simp only[vF,cC];rw[ih]
def kH(b:List (Option Box)):Nat->List Nat->List Nat->(List Nat->Option R)->Option R
 |0,_,ks,K=>K ks
 |_+1,[],ks,K=>K ks
 |n+1,k ::ws,ks,K=>if oP k ks then kH b n ws ks K else match eH b k with
  |some bx=>if bx.live then vF (ks++[k]) fun ks=>bif c9 bx.rows then kH b n ws ks K else vF (pM bx.rows ws) fun ws=>kH b n ws ks K else kH b n ws ks K
  |none=>kH b n ws ks K
theorem fD(b:List (Option Box)):∀(n:Nat) (ws ks:List Nat) (K:List Nat->Option R),kH b n ws ks K=K (dU b n ws ks)
 |0,_,_,_=>rfl
 |_+1,[],_,_=>rfl
 |n+1,k ::ws,ks,K=>by
  simp only[kH,dU,BA]
  by_cases hk:oP k ks=true
  ·rw[if_pos hk,if_pos hk];exact fD b n ws ks K
  ·rw[if_neg hk,if_neg hk]
   cases eH b k with
   |none=>exact fD b n ws ks K
   |some bx=>
    simp only
    by_cases hl:bx.live=true
    ·rw[if_pos hl,if_pos hl]
     cases c9 bx.rows
     ·exact fD b n _ _ K
     ·exact fD b n _ _ K
    ·rw[if_neg hl,if_neg hl];exact fD b n ws ks K
def uC:List CapV->(List CapV->Option R)->Option R
 |[],K=>K []
 | .p x ::cs,K=>uC cs fun l=>K (.p x ::l)
 | .addr k sz r o ::cs,K=>eK k fun k=>uC cs fun l=>K (.addr k sz r o ::l)
theorem GK(l:List CapV)(K:List CapV->Option R):uC l K=K l:=by
 induction l generalizing K with
 |nil=>rfl
 |cons x xs ih=>cases x<;>simp only[uC,cC]<;>rw[ih]
def lM(ν:Nat->Option Nat)(d:DV)(K:DV->Option R):Option R:=match d with
 | .p x=>K (.p x)
 | .ow size nl rows=>K (.p (.sl size nl rows))
 | .addr k sz r o=>match ν k with
  |some k'=>eK k' fun k'=>K (.addr k' sz r o)
  |none=>K .top
 | .bs k sz ag lo n=>match ν k with
  |some k'=>eK k' fun k'=>K (.bs k' sz ag lo n)
  |none=>K .top
 | .mh k=>match ν k with
  |some k'=>eK k' fun k'=>K (.mh k')
  |none=>K .top
 | .fn f caps=>match rA ν caps with
  |some l=>uC l fun l=>K (.fn f l)
  |none=>K .top
 | .ob T=>K (.ob T)
 |_=>K .top
theorem pU(ν:Nat->Option Nat)(d:DV)(K:DV->Option R):lM ν d K=K (cF ν d):=by
 cases d with
 |addr k sz r o=>simp only[lM,cF];split<;>(rename_i heq;simp only[heq,cC])
 |bs k sz ag lo n=>simp only[lM,cF];split<;>(rename_i heq;simp only[heq,cC])
 |mh k=>simp only[lM,cF];split<;>(rename_i heq;simp only[heq,cC])
 |fn f caps=>simp only[lM,cF];split<;>(rename_i heq;simp only[heq,GK])
 |_=>rfl
def uU(ν:Nat->Option Nat):List DV->(List DV->Option R)->Option R
 |[],K=>K []
 |d ::ds,K=>lM ν d fun d=>uU ν ds fun l=>K (d ::l)
theorem wZ(ν:Nat->Option Nat)(l:List DV)(K:List DV->Option R):uU ν l K=K (uM ν l):=by
 induction l generalizing K with
 |nil=>rfl
 |cons x xs ih=>simp only[uU,uM,pU];rw[ih]
def nX(ν:Nat->Option Nat):List (List DV)->(List (List DV)->Option R)->Option R
 |[],K=>K []
 |d ::ds,K=>uU ν d fun d=>nX ν ds fun l=>K (d ::l)
theorem CJ(ν:Nat->Option Nat)(l:List (List DV))(K:List (List DV)->Option R):nX ν l K=K (lS ν l):=by
 induction l generalizing K with
 |nil=>rfl
 |cons x xs ih=>simp only[nX,lS,wZ];rw[ih]
def mC(ν:Nat->Option Nat)(rows:List (List DV))(K:List (List DV)->Option R):Option R:=bif c9 rows then K rows else nX ν rows K
theorem jV(ν:Nat->Option Nat)(l:List (List DV))(K:List (List DV)->Option R):mC ν l K=K (dH ν l):=by
 unfold mC dH;cases c9 l
 ·exact CJ ν l K
 ·rfl
def FP(b:List (Option Box))(ν:Nat->Option Nat):List DV->(List DV->Option R)->Option R
 |[],K=>K []
 |d ::ds,K=>FP b ν ds fun xs=>match d.frz b with
  |some x=>YL x fun x=>K (.p x ::xs)
  |none=>if d.isRefF then lM ν d fun d=>K (d ::xs) else none
theorem AW{b:List (Option Box)}{ν:Nat->Option Nat}{r:R}:∀{l:List DV} {K:List DV->Option R},FP b ν l K=some r->∃xs,lD b ν l=some xs/\K xs=some r
 |[],K,h=>⟨[],rfl,h⟩
 |d ::ds,K,h=>by
  simp only[FP] at h;obtain⟨xs,h1,h2⟩:=AW h;simp only[lD,h1]
  split at h2
  ·rename_i x hx;rw[IB] at h2;rw[hx];exact⟨_,rfl,h2⟩
  ·rename_i hx
   rw[hx]
   split at h2
   ·rename_i hr;rw[pU] at h2;rw[if_pos hr];exact⟨_,rfl,h2⟩
   ·cases h2
def HI(b:List (Option Box))(ν:Nat->Option Nat)(k:Nat)(K:Box->Option R):Option R :=
 match eH b k with
 |some bx=>mC ν bx.rows fun rows=>eK bx.size fun sz=>K ⟨true,sz,rows,true⟩
 |none=>K ⟨true,1,[],true⟩
def A6(b:List (Option Box))(ν:Nat->Option Nat):List Nat->(List Box->Option R)->Option R
 |[],K=>K []
 |k ::ks,K=>HI b ν k fun bx=>A6 b ν ks fun l=>K (bx ::l)
theorem G9(b:List (Option Box))(ν:Nat->Option Nat)(l:List Nat)(K:List Box->Option R):A6 b ν l K=K (kO b ν l):=by
 induction l generalizing K with
 |nil=>rfl
 |cons x xs ih=>
  simp only[A6,kO,HI,CM]
  split<;>(rename_i heq;simp only[heq,jV,cC];rw[ih])
def yA(ν:Nat->Option Nat)(old:Bool)(x:Option Box)(K:Option Box->Option R):Option R:=match x with
 |some bx=>mC ν bx.rows fun rows=>eK bx.size fun sz=>wY old fun old=>K (some ⟨true,sz,rows,old⟩)
 |none=>K none
theorem wL(ν:Nat->Option Nat)(old:Bool)(x:Option Box)(K:Option Box->Option R):yA ν old x K=K (oC ν old x):=by
 cases x with
 |none=>rfl
 |some x=>simp only[yA,oC,jV,cC,o8]
def FW(ν:Nat->Option Nat):List (Option Box)->(List (Option Box)->Option R)->Option R
 |[],K=>K []
 |x ::l,K=>yA ν false x fun x=>FW ν l fun l=>K (x ::l)
theorem IU(ν:Nat->Option Nat)(l:List (Option Box))(K:List (Option Box)->Option R):FW ν l K=K (vT ν l):=by
 induction l generalizing K with
 |nil=>rfl
 |cons x xs ih=>simp only[FW,vT,wL];rw[ih]
def tH(ν:Nat->Option Nat):List Nat->List (Option Box)->List (Option Box)->(List (Option Box)->Option R)->Option R
 |[],l,b,K=>FW ν l fun l=>fO (b++l) K
 |k ::ks,x ::l,b,K=>yA ν (qB b k) x fun x=>pN b k x fun b=>tH ν ks l b K
 |_ ::_,[],b,K=>K b
theorem xK(ν:Nat->Option Nat):∀(ks:List Nat) (l b:List (Option Box)) (K:List (Option Box)->Option R),tH ν ks l b K=K (fR ν ks l b)
 |[],l,b,K=>by simp only[tH,fR,IU,fN]
 |k ::ks,x ::l,b,K=>by simp only[tH,fR,wL,jY];exact xK ν ks l _ K
 |_ ::_,[],b,K=>rfl
def FL(ν:Nat->Option Nat)(r:DV)(K:DV->Option R):Option R:=if r.plain then K r else lM ν r K
theorem CN(ν:Nat->Option Nat)(r:DV)(K:DV->Option R):FL ν r K=K (t6 ν r):=by
 unfold FL t6;split<;>first|simp only[pU]|rfl
def TB:List UInt8->List UInt8->Bool
 |[],[]=>true
 |a ::l,b ::m=>decide (a=b)&&TB l m
 |_,_=>false
theorem K9:∀{l m:List UInt8},TB l m=true->l=m
 |[],[],_=>rfl
 |a ::l,b ::m,h=>by simp only[TB,aY,decide_eq_true_eq] at h;rw[h.1,K9 h.2]
 |[],_ ::_,h=>by simp[TB] at h
 |_ ::_,[],h=>by simp[TB] at h
def atB(a b:Value):Bool:=match a,b with
 | .pointer none,.pointer none=>true
 |_,_=>false
theorem OP{a b:Value}(h:atB a b=true):a=b:=by
 unfold atB at h
 split at h
 ·rfl
 ·cases h
mutual
def EK:PV->PV->Bool
 | .int k n,.int k' n'=>decide (k=k')&&decide (n=n')
 | .bool a,.bool b=>decide (a=b)
 | .str s,.str t=>TB s.data.toList t.data.toList
 | .agg a,.agg b=>rP a b
 | .sl n x a,.sl n' x' b=>decide (n=n')&&(decide (x=x')&&rP a b)
 | .fn f a,.fn g b=>decide (f=g)&&rP a b
 | .ptr a o,.ptr b o'=>decide (o=o')&&rP a b
 | .atom v,.atom u=>atB v u
 |_,_=>false
def rP:List PV->List PV->Bool
 |[],[]=>true
 |a ::l,b ::m=>EK a b&&rP l m
 |_,_=>false
end
mutual
theorem sU:∀{a b:PV},EK a b=true->a=b
 | .int k n,b,h=>by cases b<;>simp[EK] at h;rw[h.1,h.2]
 | .bool x,b,h=>by cases b<;>simp[EK] at h;rw[h]
 | .str s,b,h=>by
  cases b<;>simp only[EK,Bool.false_eq_true] at h
  rw[yY (K9 h)]
 | .agg l,b,h=>by cases b<;>simp only[EK,Bool.false_eq_true] at h;rw[iK h]
 | .sl n x l,b,h=>by
  cases b<;>simp only[EK,Bool.false_eq_true,aY,decide_eq_true_eq] at h
  rw[h.1,h.2.1,iK h.2.2]
 | .fn f l,b,h=>by
  cases b<;>simp only[EK,Bool.false_eq_true,aY,decide_eq_true_eq] at h
  rw[h.1,iK h.2]
 | .ptr l o,b,h=>by
  cases b<;>simp only[EK,Bool.false_eq_true,aY,decide_eq_true_eq] at h
  rw[h.1,iK h.2]
 | .atom v,b,h=>by
  cases b<;>simp only[EK,Bool.false_eq_true] at h
  rw[OP h]
theorem iK:∀{l m:List PV},rP l m=true->l=m
 |[],[],_=>rfl
 |a ::l,b ::m,h=>by simp only[rP,aY] at h;rw[sU h.1,iK h.2]
 |[],_ ::_,h=>by simp[rP] at h
 |_ ::_,[],h=>by simp[rP] at h
end
def pG{α:Type}(f : α -> α->Bool):List α->List α->Bool
 |[],[]=>true
 |a ::l,b ::m=>f a b&&pG f l m
 |_,_=>false
theorem gK{α:Type}{f : α -> α->Bool}(hf:∀a b,f a b=true->a=b):∀{l m:List α},pG f l m=true->l=m
 |[],[],_=>rfl
 |a ::l,b ::m,h=>by simp only[pG,aY] at h;rw[hf _ _ h.1,gK hf h.2]
 |[],_ ::_,h=>by simp[pG] at h
 |_ ::_,[],h=>by simp[pG] at h
def O7:CapV->CapV->Bool
 | .p x,.p y=>EK x y
 | .addr k z r o,.addr k' z' r' o'=>decide (k=k')&&(decide (z=z')&&(decide (r=r')&&decide (o=o')))
 |_,_=>false
theorem MB(a b:CapV)(h:O7 a b=true):a=b:=by
 cases a<;>cases b<;>simp only[O7,Bool.false_eq_true,aY,decide_eq_true_eq] at h
 ·rw[sU h]
 ·rw[h.1,h.2.1,h.2.2.1,h.2.2.2]
def tvB:TV->TV->Bool
 | .p x,.p y=>EK x y
 | .ow n x l,.ow n' x' m=>decide (n=n')&&(decide (x=x')&&rP l m)
 |_,_=>false
theorem R1(a b:TV)(h:tvB a b=true):a=b:=by
 cases a<;>cases b<;>simp only[tvB,Bool.false_eq_true,aY,decide_eq_true_eq] at h
 ·rw[sU h]
 ·rw[h.1,h.2.1,iK h.2.2]
def rfB:RfV->RfV->Bool
 | .p x,.p y=>EK x y
 | .addr k z r o,.addr k' z' r' o'=>decide (k=k')&&(decide (z=z')&&(decide (r=r')&&decide (o=o')))
 | .bs k z g l n,.bs k' z' g' l' n'=>decide (k=k')&&(decide (z=z')&&(decide (g=g')&&(decide (l=l')&&decide (n=n'))))
 | .mh k,.mh k'=>decide (k=k')
 |_,_=>false
theorem PF(a b:RfV)(h:rfB a b=true):a=b:=by
 cases a<;>cases b<;>simp only[rfB,Bool.false_eq_true,aY,decide_eq_true_eq] at h
 ·rw[sU h]
 ·rw[h.1,h.2.1,h.2.2.1,h.2.2.2]
 ·rw[h.1,h.2.1,h.2.2.1,h.2.2.2.1,h.2.2.2.2]
 ·rw[h]
def obB:Ob->Ob->Bool
 | .ch c l,.ch c' m=>decide (c=c')&&rP l m
 |_,_=>false
theorem QF(a b:Ob)(h:obB a b=true):a=b:=by
 cases a<;>cases b<;>simp only[obB,Bool.false_eq_true,aY,decide_eq_true_eq] at h
 rw[h.1,iK h.2]
def YP:DV->DV->Bool
 | .top,.top=>true
 | .p x,.p y=>EK x y
 | .ow n x l,.ow n' x' m=>decide (n=n')&&(decide (x=x')&&rP l m)
 | .tup l,.tup m=>pG tvB l m
 | .addr k z r o,.addr k' z' r' o'=>decide (k=k')&&(decide (z=z')&&(decide (r=r')&&decide (o=o')))
 | .bs k z g l n,.bs k' z' g' l' n'=>decide (k=k')&&(decide (z=z')&&(decide (g=g')&&(decide (l=l')&&decide (n=n'))))
 | .fn f l,.fn g m=>decide (f=g)&&pG O7 l m
 | .mh k,.mh k'=>decide (k=k')
 | .agd l,.agd m=>pG rfB l m
 | .ob x,.ob y=>obB x y
 |_,_=>false
theorem JD(a b:DV)(h:YP a b=true):a=b:=by
 cases a<;>cases b<;>simp only[YP,Bool.false_eq_true,aY,decide_eq_true_eq] at h
 ·rfl
 ·rw[sU h]
 ·rw[h.1,h.2.1,iK h.2.2]
 ·rw[gK R1 h]
 ·rw[h.1,h.2.1,h.2.2.1,h.2.2.2]
 ·rw[h.1,h.2.1,h.2.2.1,h.2.2.2.1,h.2.2.2.2]
 ·rw[h.1,gK MB h.2]
 ·rw[h]
 ·rw[QF _ _ h]
 ·rw[gK PF h]
def IC:Option Box->Option Box->Bool
 |none,none=>true
 |some x,some y=>decide (x.live=y.live)&&(decide (x.size=y.size)&&(decide (x.old=y.old)&&pG (pG YP) x.rows y.rows))
 |_,_=>false
theorem ES(a b:Option Box)(h:IC a b=true):a=b:=by
 cases a<;>cases b<;>simp only[IC,Bool.false_eq_true,aY,decide_eq_true_eq] at h
 ·rfl
 ·rename_i x y
  cases x;cases y
  simp only at h;rw[h.1,h.2.1,h.2.2.1,gK (fun _ _ h=>gK JD h) h.2.2.2]
def AU(E:Env)(f:FuncId)(gr:Bool)(xs:List DV)(b:List (Option Box))(K:DV->List (Option Box)->Option R):Option R :=
 kH b 4000 (iM b xs) [] fun ks=>FP b (F9 ks) xs fun args=>A6 b (F9 ks) ks fun bs=>match E.callO f args bs with
  |some (bs',r)=>if gr||Nat.beq bs'.length ks.length then eK b.length fun L=>eK bs'.length fun m=>tH (DK ks L m) ks bs' b fun b'=>FL (DK ks L m) r fun r'=>K r' b' else none
  |none=>none
theorem uV{E:Env}(hc:E.OK P){f:FuncId}{gr:Bool}{xs:List DV}{b:List (Option Box)}{K:DV->List (Option Box)->Option R}{r:R}(h:AU E f gr xs b K=some r):callO P f gr xs b fun v b'=>K v b'=some r:=by
 unfold AU at h;rw[fD] at h;obtain⟨args,h1,h2⟩:=AW h;rw[G9] at h2;unfold callO sJ;rw[h1];simp only
 split at h2
 ·rename_i bs' r' hE
  split at h2
  ·rename_i hg
   simp only[cC,xK,CN] at h2;refine⟨bs',r',hc.callO _ _ _ _ _ hE,?_,h2⟩;simp only[Bool.or_eq_true] at hg;rcases hg with hg|hg
   ·exact .inl hg
   ·exact .inr (Nat.eq_of_beq_eq_true hg)
  ·cases h2
 ·cases h2
def JQ:List DV->(List DV->Option R)->Option R
 |[],K=>K []
 |x ::xs,K=>KU x fun x=>JQ xs fun l=>K (x ::l)
theorem FK(l:List DV)(K:List DV->Option R):JQ l K=K l:=by
 induction l generalizing K with
 |nil=>rfl
 |cons x xs ih=>simp only[JQ,pZ];rw[ih]
def kR:List (List DV)->(List (List DV)->Option R)->Option R
 |[],K=>K []
 |x ::xs,K=>JQ x fun x=>kR xs fun l=>K (x ::l)
theorem j9(l:List (List DV))(K:List (List DV)->Option R):kR l K=K l:=by
 induction l generalizing K with
 |nil=>rfl
 |cons x xs ih=>simp only[kR,FK];rw[ih]
def kM(E:Env)(κ:KO)(vs:List DV)(b:List (Option Box))(K:DV->List (Option Box)->Option R):Option R :=
 match κ with
 | .ldo _ _=>none
 | .callo f gr=>AU E f gr vs b K
 | .callr f=>AU E f false vs b fun v b'=>bif pG IC b' b then K v b else none
 | .callvo gr=>match vs with
  | .fn f caps ::xs=>AU E f gr (xs++mU caps) b K
  |_=>none
 | .bldo zero offs=>JQ vs fun vs=>match pA (j6 zero) offs vs with
  |some cs=>fO cs fun cs=>K (.agd cs) b
  |none=>none
 | .eqp neq=>match vs with
  |[.addr _ _ _ _,.p (.atom (.pointer none))]=>K (.p (.bool neq)) b
  |[.p (.atom (.pointer none)),.p (.atom (.pointer none))]=>K (.p (.bool (!neq))) b
  |[.p (.ptr _ _),.p (.atom (.pointer none))]=>K (.p (.bool neq)) b
  |_=>none
 | .appd size bytes ag=>match vs with
  |[.p (.sl sz true []),y]=>match iG b size y with
   |some new=>aG (sz=size) (aG (new.length*bytes<=140737488355328) (aG (new.length<=140737488355328) (match new with
    |[]=>K (.p (.sl size true [])) b
    |_ ::_=>eK b.length fun L=>eK new.length fun n=>kR new fun rows=>K (.bs L size ag 0 n) (b++[some ⟨true,size,rows,false⟩]))))
   |none=>none
  |[.bs k sz _ lo n,y]=>match iG b size y with
   |some new=>match bF b k with
    |some bx=>aG (bx.live=true) (aG (sz=size) (aG (bx.size=size) (aG (lo=0) (aG (n=bx.rows.length) (aG ((bx.rows.length+new.length)*bytes<=140737488355328) (aG (bx.rows.length+new.length<=140737488355328)
      (eK b.length fun L=>eK (bx.rows.length+new.length) fun n=>kR (aW bx.rows++new) fun rows=>K (.bs L size ag 0 n) (aF b k none++[some ⟨true,size,rows,false⟩])))))))) 
    |none=>none
   |none=>none
  |_=>none
 | .bsld size n ag=>aG (size=1) (aG (vs.length=n) (aG (n≠0) (aG ((vs.all DV.isRef)=true) (aG ((vs.all (M6 b.length))=true) (eK b.length fun L=>kR (vs.map fun x=>[x]) fun rows=>K (.bs L 1 ag 0 n) (b++[some ⟨true,1,rows,false⟩]))))))
 | .slx size=>match vs with
  |[.bs k sz ag lo n,.p (.int _ h)]=>aG (sz=size) (aG (lo=0) (aG (0<=h) (aG (h<=n) (match bF b k with
   |some bx=>aG (sz=bx.size) (aG (bx.live=true) (aG (h<=bx.rows.length) (rL (some { bx with rows:=bx.rows.take h.toNat }) fun bx=>eK h.toNat fun n=>K (.bs k sz ag 0 n) (aF b k bx))))
   |none=>none))))
  |[.p (.sl sz nl rows),.p (.int _ h)]=>aG (sz=size\/rows.isEmpty=true) (aG (0<=h) (aG (h<=rows.length) (K (.p (.sl sz nl (rows.take h.toNat))) b)))
  |_=>none
 | .lookx q zero ok=>match vs with
  |[.mh k,.p x]=>aG (dK q x=true) (match dV b k with
   |some bx=>match r9 q x bx.rows with
    |some (some d)=>if ok then match d with
      | .p v=>K (.tup [.p v,.p (.bool true)]) b
      |_=>none
     else K d.copy b
    |some none=>K (if ok then .tup [.p zero,.p (.bool false)] else .p zero) b
    |none=>none
   |none=>none)
  |_=>none
 | .mupx q=>match vs with
  |[.mh k,.p x,d]=>aG (dK q x=true) (KU d fun d=>aG ((d.isRef||d.isP)=true) (match dV b k with
   |some bx=>match CK q x d bx.rows with
    |some rows=>kR rows fun rows=>K .top (aF b k (some { bx with rows:=rows }))
    |none=>none
   |none=>none))
  |_=>none
 | .mdel q=>match vs with
  |[.mh k,.p x]=>aG (dK q x=true) (match dV b k with
   |some bx=>match AJ q x bx.rows with
    |some rows=>kR (aW rows) fun rows=>K .top (aF b k (some { bx with rows:=rows }))
    |none=>none
   |none=>none)
  |_=>none
 | .mpe _=>none
 | .ents=>none
 | .lda _=>none
 | .mlen=>match vs with
  |[.mh k]=>match dV b k with
   |some bx=>K (.p (.int .i64 bx.rows.length)) b
   |none=>none
  |_=>none
theorem KP{E:Env}(hc:E.OK P){κ:KO}{vs:List DV}{b:List (Option Box)}{K:DV->List (Option Box)->Option R}{r:R}
  (h:kM E κ vs b K=some r):bB P κ vs b fun v b'=>K v b'=some r:=by
 cases κ with
 |ldo j ag=>cases h
 |callo f gr=>exact uV hc h
 |callr f=>
  show callO P f false vs b fun v b'=>b'=b/\K v b=some r
  refine dJ (fun v b' hb=>?_) (uV hc h)
  cases he:pG IC b' b with
  |false=>rw[he] at hb;cases hb
  |true=>rw[he] at hb;exact⟨gK ES he,hb⟩
 |callvo gr=>
  simp only[kM] at h;split at h
  ·exact uV hc h
  ·cases h
 |bldo zero offs=>
  simp only[kM,FK] at h;simp only[bB]
  split at h
  ·rename_i hf;rw[hf];rw[fN] at h;exact h
  ·cases h
 |eqp neq=>
  simp only[kM] at h;split at h
  ·exact h
  ·exact h
  ·exact h
  ·cases h
 |appd size bytes ag=>
  simp only[kM] at h;split at h
  ·split at h
   ·rename_i new hn
    obtain⟨h1,h⟩:=aA h;obtain⟨h2,h⟩:=aA h;obtain⟨h3,h⟩:=aA h;simp only[bB,hn];have h3':=Nat.le_trans h3 (by decide:140737488355328<=maxLen)
    split at h
    ·exact⟨h1,h2,h3',fun _=>h,fun e=>absurd rfl e⟩
    ·simp only[cC,j9] at h
     exact⟨h1,h2,h3',fun e=>(by cases e),fun _=>h⟩
   ·cases h
  ·split at h
   ·rename_i new hn
    split at h
    ·rename_i bx hb
     obtain⟨h1,h⟩:=aA h;obtain⟨h2,h⟩:=aA h;obtain⟨h3,h⟩:=aA h;obtain⟨h4,h⟩:=aA h;obtain⟨h5,h⟩:=aA h;obtain⟨h6,h⟩:=aA h;obtain⟨h7,h⟩:=aA h;simp only[cC,j9] at h;simp only[bB,hn,hb];exact⟨h1,h2,h3,h4,h5,h6,Nat.le_trans h7 (by decide:140737488355328<=maxLen),h⟩
    ·cases h
   ·cases h
  ·cases h
 |bsld size n ag=>
  simp only[kM] at h;obtain⟨h1,h⟩:=aA h;obtain⟨h2,h⟩:=aA h;obtain⟨h3,h⟩:=aA h;obtain⟨h4,h⟩:=aA h;obtain⟨h5,h⟩:=aA h;simp only[cC,j9] at h;simp only[bB];exact⟨h1,h2,h3,h4,h5,h⟩
 |slx size=>
  simp only[kM] at h;split at h
  ·obtain⟨h1,h⟩:=aA h;obtain⟨h2,h⟩:=aA h;obtain⟨h3,h⟩:=aA h;obtain⟨h4,h⟩:=aA h
   split at h
   ·rename_i bx hb
    obtain⟨h5,h⟩:=aA h;obtain⟨h6,h⟩:=aA h;obtain⟨h7,h⟩:=aA h;simp only[cC,fH] at h;simp only[bB,hb];exact⟨h1,h2,h3,h4,h5,h6,h7,h⟩
   ·cases h
  ·obtain⟨h1,h⟩:=aA h;obtain⟨h2,h⟩:=aA h;obtain⟨h3,h⟩:=aA h
   simp only[bB];exact⟨by simpa using h1,h2,h3,h⟩
  ·cases h
 |lookx q zero ok=>
  simp only[kM] at h;split at h
  ·obtain⟨h1,h⟩:=aA h
   simp only[bB];refine⟨h1,?_⟩
   split at h
   ·rename_i hb;simp only[hb]
    split at h
    ·rename_i hf;simp only[hf]
     split at h
     ·rename_i ho
      rw[if_pos ho]
      split at h
      ·exact⟨_,rfl,h⟩
      ·cases h
     ·rename_i ho;rw[if_neg ho];exact h
    ·rename_i hf;simp only[hf];exact h
    ·cases h
   ·cases h
  ·cases h
 |mupx q=>
  simp only[kM] at h;split at h
  ·obtain⟨h1,h⟩:=aA h
   rw[pZ] at h;obtain⟨h2,h⟩:=aA h;simp only[bB];refine⟨h1,h2,?_⟩
   split at h
   ·rename_i hb;simp only[hb]
    split at h
    ·rename_i hf;simp only[hf];rw[j9] at h;exact h
    ·cases h
   ·cases h
  ·cases h
 |mdel q=>
  simp only[kM] at h;split at h
  ·obtain⟨h1,h⟩:=aA h
   simp only[bB];refine⟨h1,?_⟩
   split at h
   ·rename_i hb;simp only[hb]
    split at h
    ·rename_i hf;simp only[hf];rw[j9] at h;exact h
    ·cases h
   ·cases h
  ·cases h
 |mpe q=>cases h
 |ents=>cases h
 |lda n=>cases h
 |mlen=>
  simp only[kM] at h;split at h
  ·simp only[bB]
   split at h
   ·rename_i hb;simp only[hb];exact h
   ·cases h
  ·cases h
def cE(E:Env)(κ:Kd)(vs:List DV)(b:List (Option Box))(K:DV->List (Option Box)->Option R):Option R :=
 match κ with
 | .mov take=>match vs with
  |[x]=>K (if take then x else x.copy) b
  |_=>none
 | .pick=>match vs with
  |[.p (.bool c),x,y]=>if c then K x.copy b else K y.copy b
  |_=>none
 | .box k size=>match vs with
  |[x]=>match aK x with
   |some cs=>aG (cs.length=size) (aG (x.ment k=false) (rL (some ⟨true,size,[kW cs],false⟩) fun bx=>K (.addr k size 0 0) (aF b k bx)))
   |none=>none
  |_=>none
 | .alloc k size zero=>match vs with
  |[]=>aG (zero.length=size) (K (.addr k size 0 0) (aF b k (some ⟨true,size,[zero],false⟩)))
  |_=>none
 | .build zero offs=>match cH vs with
  |some ps=>match oW zero offs ps with
   |some cs=>K (.p (.agg cs)) b
   |none=>none
  |none=>none
 | .bsl size n=>match cH vs with
  |some rows=>aG (rows.length=n) (aG (∀r,r∈rows->(aE r).length=size) (K (.ow size false rows) b))
  |none=>none
 | .load n isAgg take=>match vs with
  |[.addr k sz r off]=>match bF b k with
   |some bx=>aG (sz=bx.size) (match bx.rows[r]? with
    |some row=>aG (off+n<=row.length) (
     if isAgg then match cH (eW row off n) with
      |some cs=>K (.p (.agg cs)) b
      |none=>none
     else match row[off]? with
      |some d=>if take then rL (some { bx with rows:=aF bx.rows r (aF row off d.copy) }) fun bx=>K d (aF b k bx) else K d.copy b
      |none=>none)
    |none=>none)
   |none=>none
  |[.p (.ptr cells off)]=>C8 cells off n isAgg fun x=>K (.p x) b
  |_=>none
 | .loadp n isAgg=>match vs with
  |[.p (.ptr cells off)]=>C8 cells off n isAgg fun x=>K (.p x) b
  |_=>none
 | .store n=>match vs with
  |[.addr k sz r off,v]=>match bF b k,aK v with
   |some bx,some cs=>aG (sz=bx.size) (aG (bx.live=true) (aG (cs.length=n) (match bx.rows[r]? with
    |some row=>aG (off+n<=row.length) (rL (some { bx with rows:=aF bx.rows r (iR row off cs) }) fun bx=>K .top (aF b k bx))
    |none=>none)))
   |_,_=>none
  |_=>none
 | .bin op=>match vs with
  |[.p x,.p y]=>OU op x y fun z=>K (.p z) b
  |_=>none
 | .eqnil neq=>match vs with
  |[.p (.sl _ n _),.ow _ true []]=>K (.p (.bool (if neq then !n else n))) b
  |[.ow _ n _,.ow _ true []]=>K (.p (.bool (if neq then !n else n))) b
  |_=>none
 | .un op=>match vs with
  |[.p (.bool x)]=>match op with
   | .not=>K (.p (.bool !x)) b
   |_=>none
  |[.p (.int k x)]=>match op with
   | .neg=>K (.p (.int k (pB k (0-x)))) b
   |_=>none
  |_=>none
 | .conv k=>match vs with
  |[.p (.int _ n)]=>K (.p (.int k (pB k n))) b
  |_=>none
 | .fad off=>match vs with
  |[.addr k size r o]=>K (.addr k size r (o+off)) b
  |[.p (.ptr cells o)]=>K (.p (.ptr cells (o+off))) b
  |_=>none
 | .fld off n isAgg=>match vs with
  |[.p (.agg cs)]=>C8 cs off n isAgg fun x=>K (.p x) b
  |_=>none
 | .iad size=>match vs with
  |[.p (.sl sz _ rows),.p (.int _ i)]=>aG (sz=size) (aG (0<=i) (match rows[i.toNat]? with
   |some row=>K (.p (.ptr (aE row) 0)) b
   |none=>none))
  |[.ow sz _ rows,.p (.int _ i)]=>aG (sz=size) (aG (0<=i) (match rows[i.toNat]? with
   |some row=>K (.p (.ptr (aE row) 0)) b
   |none=>none))
  |[.bs k sz _ lo n,.p (.int _ i)]=>aG (sz=size) (aG (0<=i) (aG (i<n) (K (.addr k sz (lo+i.toNat) 0) b)))
  |_=>none
 | .sidx=>match vs with
  |[.p (.str s),.p (.int _ i)]=>aG (0<=i) (match s.data.toList[i.toNat]? with
   |some c=>K (.p (.int .u8 c.toNat)) b
   |none=>none)
  |_=>none
 | .len=>match vs with
  |[x]=>match fP x with
   |some n=>K (.p (.int .i64 n)) b
   |none=>none
  |_=>none
 | .lenD=>match vs with
  |[x]=>match fP x with
   |some n=>K (.p (.int .i64 n)) b
   |none=>none
  |_=>none
 | .slen=>match vs with
  |[.p (.str z)]=>K (.p (.int .i64 z.size)) b
  |_=>none
 | .app size bytes=>match vs with
  |[.ow sz nl rows,y]=>match y.frz b with
   |some (.sl sz2 _ rows2)=>aG (sz=size\/(nl=true/\rows.isEmpty=true)) (aG (sz2=size\/rows2.isEmpty=true) (aG ((rows.length+rows2.length)*bytes<=140737488355328) (aG (rows.length+rows2.length<=140737488355328)
     (K (.ow size (nl&&rows2.isEmpty) (rows++rows2)) b))))
   |_=>none
  |[.p (.sl sz true rows),y]=>aG (rows.isEmpty=true) (match y.frz b with
   |some (.sl sz2 _ rows2)=>aG (sz=size) (aG (sz2=size\/rows2.isEmpty=true) (aG (rows2.length*bytes<=140737488355328) (aG (rows2.length<=140737488355328)
     (K (.ow size rows2.isEmpty rows2) b))))
   |_=>none)
  |_=>none
 | .ext j=>match vs with
  |[.tup ds]=>match ds[j]? with
   |some d=>K d.dv b
   |none=>none
  |_=>none
 | .extp j=>match vs with
  |[.tup ds]=>match ds[j]? with
   |some d=>K d.dv.copy b
   |none=>none
  |_=>none
 | .call f=>match lH b vs with
  |some args=>match E.call f args with
   |some r=>K r b
   |none=>none
  |none=>none
 | .callv=>match vs with
  |fx ::xs=>match fx.frz b,lH b xs with
   |some (.fn f caps),some args=>match E.call f (args++caps) with
    |some r=>K r b
    |none=>none
   |_,_=>none
  |_=>none
 | .mkfn f=>match lH b vs with
  |some caps=>K (.p (.fn f caps)) b
  |none=>none
 | .mksl k size bytes isAgg zero=>match vs with
  |[.p (.int _ n),.p (.int _ m)]=>aG (n=m) (aG (0<=n) (aG (n*bytes<=140737488355328) (aG (n<=140737488355328) (aG (zero.length=size)
    (rL (some ⟨true,size,List.replicate n.toNat zero,false⟩) fun bx=>K (.bs k size isAgg 0 n.toNat) (aF b k bx))))))
  |_=>none
 | .slc size lo hi=>match vs with
  | .p (.sl sz nl rows) ::ys=>aG (sz=size\/rows.isEmpty=true) (match lo,hi,ys with
   |true,true,[.p (.int _ l),.p (.int _ h)]=>aG (0<=l) (aG (l<=h) (aG (h<=rows.length) (K (.p (.sl sz nl ((rows.take h.toNat).drop l.toNat))) b)))
   |true,false,[.p (.int _ l)]=>aG (0<=l) (aG (l<=rows.length) (K (.p (.sl sz nl (rows.drop l.toNat))) b))
   |false,true,[.p (.int _ h)]=>aG (0<=h) (aG (h<=rows.length) (K (.p (.sl sz nl (rows.take h.toNat))) b))
   |_,_,_=>none)
  |_=>none
 | .nilchk=>match vs with
  |[.addr k s r o]=>K (.addr k s r o) b
  |[.p (.ptr c o)]=>K (.p (.ptr c o)) b
  |[.p (.fn f c)]=>K (.p (.fn f c)) b
  |_=>none
 | .mn=>match vs with
  |[.p (.int k x),.p (.int k' y)]=>aG (k=k') (K (.p (.int k (if y<x then y else x))) b)
  |_=>none
 | .mx=>match vs with
  |[.p (.int k x),.p (.int k' y)]=>aG (k=k') (K (.p (.int k (if y>x then y else x))) b)
  |_=>none
 | .ssl lo hi=>match vs with
  | .p (.str z) ::ys=>match lo,hi,ys with
   |true,true,[.p (.int _ l),.p (.int _ h)]=>aG (0<=l) (aG (l<=h) (aG (h<=z.size) (K (.p (.str (z.extract l.toNat h.toNat))) b)))
   |true,false,[.p (.int _ l)]=>aG (0<=l) (aG (l<=z.size) (K (.p (.str (z.extract l.toNat z.size))) b))
   |false,true,[.p (.int _ h)]=>aG (0<=h) (aG (h<=z.size) (K (.p (.str (z.extract 0 h.toNat))) b))
   |_,_,_=>none
  |_=>none
 | .slb k size=>match vs with
  |[.bs k' sz ag lo n,.p (.int _ h)]=>aG (k'=k) (aG (sz=size) (aG (lo=0) (aG (0<=h) (aG (h<=n) (match bF b k with
   |some bx=>aG (h<=bx.rows.length) (rL (some { bx with rows:=bx.rows.take h.toNat }) fun bx=>K (.bs k sz ag 0 h.toNat) (aF b k bx))
   |none=>none)))))
  |_=>none
 | .callm f k=>match bF b k,tM k b vs with
  |some bx,some args=>aG (bx.live=true) (aG (c9 bx.rows=true) (match E.callM f bx.size args bx.rows with
   |some (rows',r)=>rL (some { bx with rows:=rows' }) fun bx=>K r (aF b k bx)
   |none=>none))
  |_,_=>none
 | .stk=>none
 | .eqat neq=>match vs with
  |[.p (.atom .nilIface),.p (.atom .nilIface)]=>K (.p (.bool (!neq))) b
  |_=>none
 | .eqs n neq=>match vs with
  |[.p (.agg xs),.p (.agg ys)]=>aG (xs.length=n) (match E7 xs ys with
   |some r=>K (.p (.bool (if neq then !r else r))) b
   |none=>none)
  |_=>none
 | .eqb neq=>match vs with
  |[.p (.bool x),.p (.bool y)]=>K (.p (.bool (if neq then !(x ==y) else x ==y))) b
  |_=>none
 | .mkz size bytes row=>match vs with
  |[.p (.int _ n),.p (.int _ m)]=>aG (n=m) (aG (0<=n) (aG (n*bytes<=140737488355328) (aG (n<=140737488355328) (aG ((aE row).length=size)
    (K (.ow size false (List.replicate n.toNat row)) b)))))
  |_=>none
 | .s2b=>match vs with
  |[.p (.str z)]=>aG (z.size<=140737488355328) (K (.p (.sl 1 false (z.data.toList.map fun c=>.int .u8 c.toNat))) b)
  |_=>none
 | .mkmap k=>match vs with
  |[]=>K (.mh k) (aF b k (some ⟨true,0,[],false⟩))
  |_=>none
 | .look q zero=>match vs with
  |[.mh k,.p (.int q' x)]=>aG (q'=q) (match dV b k with
   |some bx=>match mP q x bx.rows with
    |some (some v)=>K (.p v) b
    |some none=>K (.p zero) b
    |none=>none
   |none=>none)
  |_=>none
 | .mupd q=>match vs with
  |[.mh k,.p (.int q' x),.p v]=>aG (q'=q) (aG (v.one=true) (match dV b k with
   |some bx=>match vU q x v bx.rows with
    |some rows=>rL (some { bx with rows:=rows }) fun bx=>K .top (aF b k bx)
    |none=>none
   |none=>none))
  |_=>none
 | .at _ _=>none
 | .pl _=>none
 | .ob κ=>kM E κ vs b K
theorem jS{α:Type}{l:List α}:l.isEmpty=true↔l=[]:=by cases l<;>simp
theorem jD:140737488355328<=maxLen:=by decide
theorem zS{E:Env}(hc:E.OK P){κ:Kd}{vs:List DV}{b:List (Option Box)}{K:DV->List (Option Box)->Option R}{r:R}
  (h:cE E κ vs b K=some r):aD P κ vs b fun v b'=>K v b'=some r:=by
 cases κ with
 |mov take=>
  simp only[cE] at h;split at h<;>first|(cases h;done)|exact h
 |pick=>
  simp only[cE] at h;split at h
  ·split at h
   ·rename_i hc;exact⟨fun _=>h,fun e=>by rw[hc] at e;cases e⟩
   ·rename_i hc;exact⟨fun e=>absurd e hc,fun _=>h⟩
  ·cases h
 |box k size=>
  simp only[cE] at h;split at h
  ·simp only[aD]
   split at h
   ·rename_i heq;simp only[heq];obtain⟨h1,h⟩:=aA h;obtain⟨h2,h⟩:=aA h;rw[fH] at h;exact⟨h1,h2,h⟩
   ·cases h
  ·cases h
 |alloc k size zero=>
  simp only[cE] at h;split at h
  ·exact aA h
  ·cases h
 |build zero offs=>
  simp only[cE] at h;simp only[aD];split at h
  ·rename_i heq;simp only[heq]
   split at h
   ·rename_i heq;simp only[heq];exact h
   ·cases h
  ·cases h
 |bsl size n=>
  simp only[cE] at h;simp only[aD];split at h
  ·rename_i heq;simp only[heq];obtain⟨h1,h⟩:=aA h;obtain⟨h2,h⟩:=aA h;exact⟨h1,h2,h⟩
  ·cases h
 |load n isAgg take=>
  simp only[cE] at h;split at h
  ·simp only[aD];split at h
   ·rename_i heq;simp only[heq]
    obtain⟨h1,h⟩:=aA h
    split at h
    ·rename_i hrow
     obtain⟨h2,h⟩:=aA h;refine⟨h1,_,hrow,h2,?_⟩
     split at h
     ·rename_i hi
      rw[if_pos hi]
      split at h
      ·rename_i heq;simp only[heq];exact h
      ·cases h
     ·rename_i hi
      rw[if_neg hi]
      split at h
      ·rename_i hd
       refine⟨_,hd,?_⟩
       split at h
       ·rename_i ht;rw[fH] at h;rw[if_pos ht,if_pos ht];exact h
       ·rename_i ht;rw[if_neg ht,if_neg ht];exact h
      ·cases h
    ·cases h
   ·cases h
  ·exact tT h
  ·cases h
 |loadp n isAgg=>
  simp only[cE] at h;split at h
  ·exact tT h
  ·cases h
 |store n=>
  simp only[cE] at h;split at h
  ·simp only[aD];split at h
   ·rename_i heq1 heq2;simp only[heq1,heq2]
    obtain⟨h1,h⟩:=aA h;obtain⟨h2,h⟩:=aA h;obtain⟨h3,h⟩:=aA h
    split at h
    ·rename_i hrow
     obtain⟨h4,h⟩:=aA h;rw[fH] at h;exact⟨h1,h2,h3,_,hrow,h4,h⟩
    ·cases h
   ·cases h
  ·cases h
 |bin op=>
  simp only[cE] at h;split at h
  ·exact LU h
  ·cases h
 |eqnil neq=>
  simp only[cE] at h;split at h
  ·exact h
  ·exact h
  ·cases h
 |un op=>
  simp only[cE] at h;split at h
  ·cases op<;>simp only[aD]<;>first|exact h|(cases h;done)
  ·cases op<;>simp only[aD,u5] at h ⊢<;>first|exact h|(cases h;done)
  ·cases h
 |conv k=>
  simp only[cE] at h;split at h
  ·rw[u5] at h;exact h
  ·cases h
 |fad off=>
  simp only[cE] at h;split at h<;>first|exact h|(cases h;done)
 |fld off n isAgg=>
  simp only[cE] at h;split at h
  ·exact tT h
  ·cases h
 |iad size=>
  simp only[cE] at h;split at h
  ·obtain⟨h1,h⟩:=aA h;obtain⟨h2,h⟩:=aA h
   split at h
   ·exact⟨h1,h2,_,by assumption,h⟩
   ·cases h
  ·obtain⟨h1,h⟩:=aA h;obtain⟨h2,h⟩:=aA h
   split at h
   ·exact⟨h1,h2,_,by assumption,h⟩
   ·cases h
  ·obtain⟨h1,h⟩:=aA h;obtain⟨h2,h⟩:=aA h;obtain⟨h3,h⟩:=aA h
   exact⟨h1,h2,h3,h⟩
  ·cases h
 |sidx=>
  simp only[cE] at h;split at h
  ·obtain⟨h1,h⟩:=aA h
   split at h
   ·exact⟨h1,_,by assumption,h⟩
   ·cases h
  ·cases h
 |len=>
  simp only[cE] at h;split at h
  ·simp only[aD];split at h
   ·rename_i heq;simp only[heq];exact fun _=>h
   ·cases h
  ·cases h
 |lenD=>
  simp only[cE] at h;split at h
  ·simp only[aD];split at h
   ·rename_i heq;simp only[heq];exact h
   ·cases h
  ·cases h
 |slen=>
  simp only[cE] at h;split at h<;>first|exact h|(cases h;done)
 |app size bytes=>
  simp only[cE] at h;split at h
  ·simp only[aD];split at h
   ·rename_i heq;simp only[heq]
    simp only[jS] at h;obtain⟨h1,h⟩:=aA h;obtain⟨h2,h⟩:=aA h;obtain⟨h3,h⟩:=aA h;obtain⟨h4,h⟩:=aA h;exact⟨h1,h2,h3,Nat.le_trans h4 jD,h⟩
   ·cases h
  ·replace h:=aA h
   obtain⟨h0,h⟩:=h;rw[List.isEmpty_iff] at h0;subst h0;simp only[aD];split at h
   ·rename_i heq;simp only[heq]
    simp only[jS] at h;obtain⟨h1,h⟩:=aA h;obtain⟨h2,h⟩:=aA h;obtain⟨h3,h⟩:=aA h;obtain⟨h4,h⟩:=aA h;exact⟨h1,h2,h3,Nat.le_trans h4 jD,h⟩
   ·cases h
  ·cases h
 |ext j=>
  simp only[cE] at h;split at h
  ·simp only[aD];split at h<;>first|(cases h;done)|(rename_i heq;simp only[heq];exact h)
  ·cases h
 |extp j=>
  simp only[cE] at h;split at h
  ·simp only[aD];split at h<;>first|(cases h;done)|(rename_i heq;simp only[heq];exact h)
  ·cases h
 |call f=>
  simp only[cE] at h;simp only[aD];split at h
  ·rename_i heq;simp only[heq]
   split at h
   ·rename_i hcall;exact⟨_,hc.call _ _ _ hcall,h⟩
   ·cases h
  ·cases h
 |callv=>
  simp only[cE] at h;split at h
  ·simp only[aD];split at h
   ·rename_i heq1 heq2;simp only[heq1,heq2]
    split at h
    ·rename_i hcall;exact⟨_,hc.call _ _ _ hcall,h⟩
    ·cases h
   ·cases h
  ·cases h
 |mkfn f=>
  simp only[cE] at h;simp only[aD];split at h<;>first|(cases h;done)|(rename_i heq;simp only[heq];exact h)
 |mksl k size bytes isAgg zero=>
  simp only[cE] at h;split at h
  ·obtain⟨h1,h⟩:=aA h;obtain⟨h2,h⟩:=aA h;obtain⟨h3,h⟩:=aA h;obtain⟨h4,h⟩:=aA h;obtain⟨h5,h⟩:=aA h
   rw[fH] at h;have:=jD;exact⟨h1,h2,h3,by omega,h5,h⟩
  ·cases h
 |slc size lo hi=>
  simp only[cE] at h;split at h
  ·simp only[jS] at h
   obtain⟨h1,h⟩:=aA h;refine⟨h1,?_⟩
   split at h
   ·obtain⟨h1,h⟩:=aA h;obtain⟨h2,h⟩:=aA h;obtain⟨h3,h⟩:=aA h;exact⟨h1,h2,h3,h⟩
   ·obtain⟨h1,h⟩:=aA h;obtain⟨h2,h⟩:=aA h;exact⟨h1,h2,h⟩
   ·obtain⟨h1,h⟩:=aA h;obtain⟨h2,h⟩:=aA h;exact⟨h1,h2,h⟩
   ·cases h
  ·cases h
 |nilchk=>
  simp only[cE] at h;split at h<;>first|exact h|(cases h;done)
 |mn=>
  simp only[cE] at h;split at h
  ·exact aA h
  ·cases h
 |mx=>
  simp only[cE] at h;split at h
  ·exact aA h
  ·cases h
 |ssl lo hi=>
  simp only[cE] at h;split at h
  ·split at h
   ·obtain⟨h1,h⟩:=aA h;obtain⟨h2,h⟩:=aA h;obtain⟨h3,h⟩:=aA h;exact⟨h1,h2,h3,h⟩
   ·obtain⟨h1,h⟩:=aA h;obtain⟨h2,h⟩:=aA h;exact⟨h1,h2,h⟩
   ·obtain⟨h1,h⟩:=aA h;obtain⟨h2,h⟩:=aA h;exact⟨h1,h2,h⟩
   ·cases h
  ·cases h
 |slb k size=>
  simp only[cE] at h;split at h
  ·obtain⟨h1,h⟩:=aA h;obtain⟨h2,h⟩:=aA h;obtain⟨h3,h⟩:=aA h;obtain⟨h4,h⟩:=aA h;obtain⟨h5,h⟩:=aA h
   simp only[aD];refine⟨h1,h2,h3,h4,h5,?_⟩
   split at h
   ·rename_i heq;simp only[heq]
    obtain⟨h6,h⟩:=aA h;rw[fH] at h;exact⟨h6,h⟩
   ·cases h
  ·cases h
 |callm f k=>
  simp only[cE] at h;simp only[aD];split at h
  ·rename_i heq1 heq2;simp only[heq1,heq2]
   obtain⟨h1,h⟩:=aA h;obtain⟨h2,h⟩:=aA h;refine⟨h1,h2,?_⟩
   split at h
   ·rename_i hcall
    rw[fH] at h;exact⟨_,_,hc.callM _ _ _ _ _ _ hcall,h⟩
   ·cases h
  ·cases h
 |stk=>simp[cE] at h
 |eqat neq=>
  simp only[cE] at h;split at h
  ·exact h
  ·cases h
 |eqs n neq=>
  simp only[cE] at h;split at h
  ·obtain⟨h1,h⟩:=aA h
   simp only[aD];refine⟨h1,?_⟩
   split at h
   ·rename_i heq;simp only[heq];exact h
   ·cases h
  ·cases h
 |eqb neq=>
  simp only[cE] at h;split at h
  ·exact h
  ·cases h
 |mkz size bytes row=>
  simp only[cE] at h;split at h
  ·obtain⟨h1,h⟩:=aA h;obtain⟨h2,h⟩:=aA h;obtain⟨h3,h⟩:=aA h;obtain⟨h4,h⟩:=aA h;obtain⟨h5,h⟩:=aA h
   have:=jD;exact⟨h1,h2,h3,by omega,h5,h⟩
  ·cases h
 |s2b=>
  simp only[cE] at h;split at h
  ·obtain⟨h1,h⟩:=aA h;exact⟨Nat.le_trans h1 jD,h⟩
  ·cases h
 |mkmap k=>
  simp only[cE] at h;split at h
  ·exact h
  ·cases h
 |look q zero=>
  simp only[cE] at h;split at h
  ·obtain⟨h1,h⟩:=aA h
   simp only[aD];refine⟨h1,?_⟩
   split at h
   ·rename_i heq;simp only[heq]
    split at h
    ·rename_i heq;simp only[heq];exact h
    ·rename_i heq;simp only[heq];exact h
    ·cases h
   ·cases h
  ·cases h
 |mupd q=>
  simp only[cE] at h;split at h
  ·obtain⟨h1,h⟩:=aA h;obtain⟨h2,h⟩:=aA h
   simp only[aD];refine⟨h1,h2,?_⟩
   split at h
   ·rename_i heq;simp only[heq]
    split at h
    ·rename_i heq;simp only[heq];rw[fH] at h;exact h
    ·cases h
   ·cases h
  ·cases h
 | «at» k κ=>simp[cE] at h
 |pl κ=>simp[cE] at h
 |ob κ=>exact KP hc h
def I7(E:Env)(κ:Kd)(vs:List DV)(b:List (Option Box))(K:DV->List (Option Box)->Option R):Option R :=
 match κ with
 | .at k κ'=>match vs with
  | .addr k' _ _ _ ::_=>aG (k'=k) (cE E κ' vs b K)
  |_=>none
 | .pl κ'=>aG ((cH vs).isSome=true) (cE E κ' vs b K)
 | κ'=>cE E κ' vs b K
theorem JY{E:Env}(hc:E.OK P){κ:Kd}{vs:List DV}{b:List (Option Box)}{K:DV->List (Option Box)->Option R}{r:R}
  (h:I7 E κ vs b K=some r):cJ P κ vs b fun v b'=>K v b'=some r:=by
 unfold I7 at h
 split at h
 ·simp only[cJ]
  split at h
  ·obtain⟨h1,h⟩:=aA h
   exact⟨h1,zS hc h⟩
  ·cases h
 ·obtain⟨h1,h⟩:=aA h
  exact⟨h1,zS hc h⟩
 ·rename_i h1 h2
  unfold cJ
  split
  ·exact(h1 _ _ rfl).elim
  ·exact(h2 _ rfl).elim
  ·exact zS hc h
def I3(t:List DV)(d:Option Nat)(v:DV)(K:List DV->Option R):Option R :=
 match d with
 |some i=>KU v fun v=>pN t i v K
 |none=>K t
theorem A0(t:List DV)(d:Option Nat)(v:DV)(K:List DV->Option R):I3 t d v K=K (aH t d v):=by
 cases d with
 |none=>rfl
 |some i=>simp only[I3,aH,pZ,jY]
def PM(κ:Kd)(xs:List O)(t:List DV)(K:List DV->Option R):Option R :=
 match κ with
 | .mov true | .app _ _ | .store _ | .ext _=>fO (fE κ xs t) K
 |_=>K (fE κ xs t)
theorem MU(κ:Kd)(xs:List O)(t:List DV)(K:List DV->Option R):PM κ xs t K=K (fE κ xs t):=by
 unfold PM;split<;>simp only[fN]
def YQ(E:Env)(i:Ins)(s:St)(K:St->Option R):Option R :=
 aG (A7 i s=true) (I7 E i.k (i.xs.map (O.val s.t)) s.b fun v b'=>PM i.k.core i.xs s.t fun t=>I3 t i.d v fun t=>fO b' fun b'=>K ⟨t,b'⟩)
theorem HQ{E:Env}(hc:E.OK P){i:Ins}{s:St}{K:St->Option R}{r:R}(h:YQ E i s K=some r):mX P i s fun s'=>K s'=some r:=by
 unfold YQ at h;simp only[MU,A0,fN] at h;obtain⟨h1,h⟩:=aA h;exact⟨(wR i s).mp h1,JY hc h⟩
def HG(E:Env)(i:Ins)(s:St)(K:St->Option R):Option R :=
 match i.g with
 |none=>YQ E i s K
 |some (j,want)=>match aT s.t j with
  | .p (.bool c)=>if c=want then pN s.t j (.p (.bool want)) fun t=>YQ E i ⟨t,s.b⟩ K else pN s.t j (.p (.bool (!want))) fun t=>I3 t i.d (.tup []) fun t=>K ⟨t,s.b⟩
  | .tup []=>I3 s.t i.d (.tup []) fun t=>K ⟨t,s.b⟩
  |_=>none
theorem EZ{E:Env}(hc:E.OK P){i:Ins}{s:St}{K:St->Option R}{r:R}(h:HG E i s K=some r):b7 P i s fun s'=>K s'=some r:=by
 unfold HG at h;unfold b7
 split at h
 ·rename_i hg;rw[hg];exact HQ hc h
 ·rename_i j want hg
  rw[hg];simp only
  split at h
  ·rename_i c ht
   rw[ht];simp only[jY,A0] at h ⊢
   split at h
   ·rename_i e;exact⟨fun _=>HQ hc h,fun e'=>by subst e;cases c<;>cases e'⟩
   ·rename_i e;exact⟨fun e'=>absurd e' e,fun _=>h⟩
  ·rename_i ht
   rw[ht];simp only[A0] at h ⊢;exact h
  ·cases h
theorem jZ{is:List Ins}:∀{s:St} {A B:St->Prop},(∀s,A s->B s)->bV P is s A->bV P is s B:=by
 induction is with
 |nil=>exact fun hab h=>hab _ h
 |cons i is ih=>exact fun hab h=>dQ (fun s hs=>ih hab hs) h
def CZ(E:Env):List Ins->St->(St->Option R)->Option R
 |[],s,K=>K s
 |i ::is,s,K=>HG E i s fun s'=>CZ E is s' K
theorem s6{E:Env}(hc:E.OK P){is:List Ins}:∀{s:St} {K:St->Option R} {r:R},CZ E is s K=some r->bV P is s fun s'=>K s'=some r:=by
 induction is with
 |nil=>exact fun h=>h
 |cons i is ih=>exact fun h=>dQ (fun s hs=>ih hs) (EZ hc h)
def sG:List DV->List Nat->(List DV->Option R)->Option R
 |t,[],K=>K t
 |t,n ::ns,K=>pN t n .top fun t=>sG t ns K
theorem D8(t:List DV)(ns:List Nat)(K:List DV->Option R):sG t ns K=K (forget t ns):=by
 induction ns generalizing t with
 |nil=>rfl
 |cons n ns ih=>simp only[sG,forget,jY,ih]
def wG:List (Option Box)->List Nat->(List (Option Box)->Option R)->Option R
 |t,[],K=>K t
 |t,n ::ns,K=>pN t n none fun t=>wG t ns K
theorem BY(t:List (Option Box))(ns:List Nat)(K:List (Option Box)->Option R):wG t ns K=K (dropB t ns):=by
 induction ns generalizing t with
 |nil=>rfl
 |cons n ns ih=>simp only[wG,dropB,jY,ih]
def JX(b:List (Option Box))(zs:List Nat)(K:List (Option Box)->Option R):Option R :=
 match zs with
 |[]=>K b
 |k ::ks=>match bF b k with
  |some bx=>aG (c9 (aW bx.rows)=true) (rL (some ⟨false,bx.size,aW bx.rows,bx.old⟩) fun x=>JX (aF b k x) ks K)
  |none=>JX b ks K
theorem LO{zs:List Nat}:∀{b:List (Option Box)} {K:List (Option Box)->Option R} {r:R},JX b zs K=some r->rX b zs fun b=>K b=some r:=by
 induction zs with
 |nil=>exact fun h=>h
 |cons k ks ih=>
  intro b K r h;simp only[JX] at h;simp only[rX]
  split at h
  ·rename_i heq;simp only[heq]
   obtain⟨h1,h⟩:=aA h;rw[fH] at h;exact⟨h1,ih h⟩
  ·rename_i heq;simp only[heq];exact ih h
theorem GP{zs:List Nat}:∀{b:List (Option Box)} {A B:List (Option Box)->Prop},(∀b,A b->B b)->rX b zs A->rX b zs B:=by
 induction zs with
 |nil=>exact fun hab h=>hab _ h
 |cons k ks ih=>
  intro b A B hab h;simp only[rX] at h ⊢
  split at h
  ·exact⟨h.1,ih hab h.2⟩
  ·exact ih hab h
def lZ:Nat->List DV->List Nat->(List DV->Option R)->Option R
 |_,[],_,K=>K []
 |_,d ::t,[],K=>K (d ::t)
 |i,d ::t,f ::fs,K=>if Nat.beq i f then lZ (i+1) t fs fun r=>K (.top ::r) else lZ (i+1) t (f ::fs) fun r=>K (d ::r)
def zN:Nat->List Nat->Bool
 |_,[]=>true
 |i,f ::fs=>Nat.ble i f&&zN (f+1) fs
def dG:Nat->List DV->List Nat->List DV
 |_,[],_=>[]
 |_,d ::t,[]=>d ::t
 |i,d ::t,f ::fs=>if Nat.beq i f then .top ::dG (i+1) t fs else d ::dG (i+1) t (f ::fs)
theorem DF(i:Nat)(t:List DV)(fs:List Nat)(K:List DV->Option R):lZ i t fs K=K (dG i t fs):=by
 induction t generalizing i fs K with
 |nil=>simp[lZ,dG]
 |cons d t ih=>cases fs with
  |nil=>rfl
  |cons f fs=>
   simp only[lZ,dG]
   split<;>rw[ih]
theorem HO{fs:List Nat}:∀{i:Nat},zN i fs=true->∀f,f∈fs->i<=f:=by
 induction fs with
 |nil=>intro i _ f hf;simp at hf
 |cons g fs ih=>
  intro i h f hf;simp only[zN,aY,Nat.ble_eq] at h;rcases List.mem_cons.1 hf with rfl|hf
  ·exact h.1
  ·have:=ih h.2 f hf;omega
theorem vO:∀(t:List DV) (i:Nat) (fs:List Nat),zN i fs=true->∀j:Nat,(dG i t fs)[j]?=if (i+j)∈fs then t[j]?.map (fun _=>DV.top) else t[j]?:=by
 intro t
 induction t with
 |nil=>intro i fs _ j;simp[dG]
 |cons d t ih=>
  intro i fs ha j
  cases fs with
  |nil=>simp[dG]
  |cons f fs=>
   simp only[dG];have ha':=ha;simp only[zN,aY,Nat.ble_eq] at ha'
   split
   ·rename_i he
    have he:=Nat.eq_of_beq_eq_true he;subst he
    cases j with
    |zero=>simp
    |succ j=>
     rw[List.getElem?_cons_succ,ih (i+1) fs ha'.2 j,List.getElem?_cons_succ];have:i+1+j=i+(j+1):=by omega
     rw[this];have hne:i+(j+1)≠i:=by omega
     simp[hne]
   ·rename_i he
    have he:i≠f:=fun e=>he (by rw[e];exact Nat.beq_refl f)
    have ha2:zN (i+1) (f ::fs)=true:=by
     simp only[zN,aY,Nat.ble_eq];exact⟨by omega,ha'.2⟩
    cases j with
    |zero=>
     have:¬(i+0)∈f ::fs:=fun hm=>by
      have:=HO ha2 _ hm;omega
     rw[if_neg this];rfl
    |succ j=>
     rw[List.getElem?_cons_succ,ih (i+1) (f ::fs) ha2 j,List.getElem?_cons_succ];have:i+1+j=i+(j+1):=by omega
     rw[this]
theorem CX:∀(fs:List Nat) (t:List DV) (j:Nat),(forget t fs)[j]?=if j∈fs then t[j]?.map (fun _=>DV.top) else t[j]?:=by
 intro fs
 induction fs with
 |nil=>intro t j;simp[forget]
 |cons f fs ih=>
  intro t j;simp only[forget];rw[ih,getElem?_setL]
  by_cases h1:j=f
  ·subst h1
   by_cases h2:j∈fs
   ·simp[h2];cases t[j]?<;>rfl
   ·simp[h2]
  ·by_cases h2:j∈fs<;>simp[h1,h2]
theorem A8{t:List DV}{fs:List Nat}(h:zN 0 fs=true):dG 0 t fs=forget t fs:=by
 apply List.ext_getElem?
 intro j;rw[vO t 0 fs h j,CX,Nat.zero_add]
def nW(t:List DV)(fs:List Nat)(K:List DV->Option R):Option R:=if zN 0 fs then lZ 0 t fs K else sG t fs K
theorem u7(t:List DV)(fs:List Nat)(K:List DV->Option R):nW t fs K=K (forget t fs):=by
 unfold nW
 split
 ·rename_i h;rw[DF,A8 h]
 ·rw[D8]
def I0(f:St->(St->Option R)->Option R):Nat->St->Option R
 |0,_=>none
 |n+1,s=>f s (I0 f n)
def LR(s s':St):Bool:=pG YP s.t s'.t&&pG IC s.b s'.b
theorem L4{s s':St}(h:LR s s'=true):s=s':=by
 simp only[LR,aY] at h;cases s;cases s'
 simp only at h;rw[gK JD h.1,gK ES h.2]
def AH(f:wB->Option Unit)(rem:List wB):List wB->Option Unit
 |[]=>some ()
 |p ::ps=>bif kD rem p.2.2 then (match f p with
  |some _=>AH f rem ps
  |none=>none) else AH f rem ps
def KH(E:Env):Nat->List wB->St->(St->Option Unit)->Option Unit
 |0,_,_,_=>none
 |n+1,rem,s,K=>match rem with
  |[]=>K s
  |p ::rem'=>AH (fun q=>HG E q.2.1 s fun s'=>KH E n (oM q.1 (p ::rem')) s' K) (p ::rem') (p ::rem')
theorem LB{E:Env}(hc:E.OK P){K:St->Option Unit}{A:St->Prop}(hK:∀s,K s=some ()->A s):∀{n:Nat} {rem:List wB} {s:St},KH E n rem s K=some ()->pY P n rem s A:=by
 intro n
 induction n with
 |zero=>intro rem s h;cases h
 |succ n ih=>
  intro rem s h
  cases rem with
  |nil=>rw[pY];exact hK _ h
  |cons p rem'=>
   rw[pY];simp only[KH] at h
   suffices ∀ps,AH (fun q=>HG E q.2.1 s fun s'=>KH E n (oM q.1 (p ::rem')) s' K) (p ::rem') ps=some ()->E1 P n (p ::rem') ps s A from this _ h
   intro ps
   induction ps with
   |nil=>intro _;rw[E1];trivial
   |cons q ps ihp=>
    intro h;rw[E1];simp only[AH] at h
    cases hr:kD (p ::rem') q.2.2 with
    |false=>rw[hr] at h;exact⟨fun e=>(by cases e),ihp h⟩
    |true=>
     rw[hr] at h;simp only[cond_true] at h
     split at h
     ·rename_i u hu
      exact⟨fun _=>dQ (fun s' hs'=>ih hs') (EZ hc hu),ihp h⟩
     ·cases h
def iD(E:Env)(fuel:Nat):C->St->(St->Option R)->(Nat->St->Option R)->(St->Option R)->Option R
 | .stuck,_,_,_,_=>none
 | .skip,s,n,_,_=>n s
 | .reg ops,s,n,_,_=>CZ E ops s n
 | .regd ops,s,n,_,_=>CZ E ops s n
 | .rega ops,s,n,_,_=>aG (NC ops s=true) (CZ E ops s n)
 | .regm ops,s,n,_,_=>aG (LX ops s=true) (CZ E ops s n)
 | .seq a b,s,n,x,r=>iD E fuel a s (fun s'=>iD E fuel b s' n x r) x r
 | .cond c a b,s,n,x,r=>match c,c.val s.t with
  | .t j,.p (.bool t)=>if t then pN s.t j (.p (.bool true)) fun t=>iD E fuel a ⟨t,s.b⟩ n x r else pN s.t j (.p (.bool false)) fun t=>iD E fuel b ⟨t,s.b⟩ n x r
  | .c _,.p (.bool t)=>if t then iD E fuel a s n x r else iD E fuel b s n x r
  |_,_=>none
 | .block id c,s,n,x,r=>iD E fuel c s n (fun j s'=>if j=id then n s' else x j s') r
 | .loop fs ds c,s,_,x,r=>nW s.t fs fun t=>wG s.b ds fun b=>I0 (fun s' N=>iD E fuel c s' (fun s2=>nW s2.t fs fun t=>wG s2.b ds fun b=>N ⟨t,b⟩) x r) fuel ⟨t,b⟩
 | .exit id,s,_,x,_=>x id s
 | .ret,s,_,_,r=>r s
 | .gh _ _,_,_,_,_=>none
 | .gp c g,s,n,x,r=>match g with
  | .lay _ _=>iD E fuel c s n x r
  |_=>none
 | .pre fs zs ds c,s,n,x,r=>JX s.b zs fun b=>nW s.t fs fun t=>wG b ds fun b=>iD E fuel c ⟨t,b⟩ n x r
 | .own i k ag c,s,n,x,r=>match aT s.t i with
  | .ow size _ rows=>aG ((decide (size≠0)&&(decide (k<s.b.length)&&(c8 k s.t&&(cK k 0 s.b&&(qW i 0 s.t&&rD k 0 s.b)))))=true) (aG (rows.isEmpty=false) (aG (mW (dS rows)=true)
    (eK rows.length fun m=>pN s.t i (.bs k size ag 0 m) fun t=>rL (some ⟨true,size,dS rows,false⟩) fun bx=>pN s.b k bx fun b=>iD E fuel c ⟨t,b⟩ n x r)))
  |_=>none
 | .regx ops,s,n,_,_=>match CZ E (KD ops) s some with
  |some s1=>match KH E (ops.length+1) (sT 0 ops) s (fun s2=>bif LR s2 s1 then some () else none) with
   |some _=>n s1
   |none=>none
  |none=>none
theorem yX{E:Env}(hc:E.OK P){fuel:Nat}:∀{c:C} {s:St} {n:St->Option R} {x:Nat->St->Option R} {r:St->Option R} {d:R}
  {N:St->Prop} {Xp:Nat->St->Prop} {Rp:St->Prop},(∀s,n s=some d->N s)->(∀j s,x j s=some d->Xp j s)->(∀s,r s=some d->Rp s) ->
  iD E fuel c s n x r=some d->vc P c s N Xp Rp:=by
 intro c
 induction c with
 |stuck=>exact fun _ _ _ h=>by cases h
 |gh g c _=>exact fun _ _ _ h=>by cases h
 |gp c g ih=>
  intro s n x r d N Xp Rp hn hx hr h
  cases g with
  |lay k m=>
   show vc P c s (fun s'=>KV P (.lay k m) s' N) Xp Rp
   exact ih (fun s hs=>by show LS s k m N;rw[F8];exact hn s hs) hx hr h
  |_=>cases h
 |skip=>exact fun hn _ _ h=>hn _ h
 |reg ops=>exact fun hn _ _ h=>jZ hn (s6 hc h)
 |regd ops=>exact fun hn _ _ h=>jZ hn (s6 hc h)
 |rega ops=>
  intro s n x r d N Xp Rp hn _ _ h;obtain⟨h1,h⟩:=aA h;exact⟨h1,jZ hn (s6 hc h)⟩
 |regm ops=>
  intro s n x r d N Xp Rp hn _ _ h;obtain⟨h1,h⟩:=aA h;exact⟨h1,jZ hn (s6 hc h)⟩
 |seq a b iha ihb=>exact fun hn hx hr h=>iha (fun s hs=>ihb hn hx hr hs) hx hr h
 |cond c a b iha ihb=>
  intro s n x r d N Xp Rp hn hx hr h
  cases c with
  |t j=>
   simp only[iD] at h;simp only[vc];generalize (O.t j).val s.t=dv at *
   cases dv with
   |p z=>
    cases z with
    |bool t=>
     simp only[jY] at h
     cases t with
     |true=>exact⟨fun _=>iha hn hx hr h,fun e=>by cases e⟩
     |false=>exact⟨(fun e=>by cases e),fun _=>ihb hn hx hr h⟩
    |_=>cases h
   |_=>cases h
  |c d0=>
   simp only[iD] at h;simp only[vc];generalize (O.c d0).val s.t=dv at *
   cases dv with
   |p z=>
    cases z with
    |bool t=>
     cases t with
     |true=>exact⟨fun _=>iha hn hx hr h,fun e=>by cases e⟩
     |false=>exact⟨(fun e=>by cases e),fun _=>ihb hn hx hr h⟩
    |_=>cases h
   |_=>cases h
 |block id c ih=>
  intro s n x r d N Xp Rp hn hx hr h;refine ih hn (fun j s hs=>?_) hr h
  split at hs
  ·rename_i e;rw[if_pos e];exact hn _ hs
  ·rename_i e;rw[if_neg e];exact hx _ _ hs
 |loop fs ds c ih=>
  intro s n x r d N Xp Rp hn hx hr h;simp only[iD,u7,BY] at h;refine⟨fuel,?_⟩;generalize (⟨forget s.t fs,dropB s.b ds⟩:St)=s0 at *
  suffices ∀k s0,I0 (fun s' N=>iD E fuel c s' (fun s2=>N ⟨forget s2.t fs,dropB s2.b ds⟩) x r) k s0=some d->CW (fun s' N=>vc P c s' (fun s2=>N ⟨forget s2.t fs,dropB s2.b ds⟩) Xp Rp) k s0 from this fuel s0 h
  intro k
  induction k with
  |zero=>exact fun s0 h=>by cases h
  |succ k ihk=>exact fun s0 h=>ih (fun s hs=>ihk _ hs) hx hr h
 |exit id=>exact fun _ hx _ h=>hx _ _ h
 |ret=>exact fun _ _ hr h=>hr _ h
 |pre fs zs ds c ih=>
  intro s n x r d N Xp Rp hn hx hr h;simp only[iD,u7,BY] at h;exact GP (fun b hb=>ih hn hx hr hb) (LO h)
 |regx ops=>
  intro s n x r d N Xp Rp hn _ _ h;simp only[iD] at h
  split at h
  ·rename_i s1 _
   split at h
   ·rename_i u hu
    refine LB hc (fun s2 hs2=>?_) hu
    cases he:LR s2 s1 with
    |false=>rw[he] at hs2;cases hs2
    |true=>rw[L4 he];exact hn _ h
   ·cases h
  ·cases h
 |own i k ag c ih=>
  intro s n x r d N Xp Rp hn hx hr h;simp only[iD,cC,jY,fH] at h;simp only[vc]
  split at h
  ·rename_i size nl rows hg
   obtain⟨h1,h⟩:=aA h;obtain⟨h2,h⟩:=aA h;obtain⟨h3,h⟩:=aA h;rw[hg];exact⟨h1,(fun e=>by subst e;cases h2),h3,ih hn hx hr h⟩
  ·cases h
def XR(b:List (Option Box))(K:TV->Option R):DV->Option R
 | .p x=>K (.p x)
 | .ow size n rows=>K (.ow size n rows)
 |d=>match d.frz b with
  |some x=>K (.p x)
  |none=>none
def IF(s:St)(K:TV->Option R):RV->Option R
 | .tmp t=>XR s.b K (aT s.t t)
 | .cell t n=>match aT s.t t with
  | .addr k sz r off=>match bF s.b k with
   |some bx=>aG (sz=bx.size) (match bx.rows[r]? with
    |some row=>aG (off+n<=row.length) (match cH (eW row off n) with
     |some cs=>K (.p (.agg cs))
     |none=>none)
    |none=>none)
   |none=>none
  |_=>none
def oS(s:St):List RV->(List TV->Option R)->Option R
 |[],K=>K []
 |r ::rs,K=>IF s (fun x=>oS s rs fun xs=>K (x ::xs)) r
theorem N0{b:List (Option Box)}{K:TV->Option R}{v:DV}{d:R}{N:TV->Prop}(hn:∀x,K x=some d->N x)(h:XR b K v=some d):T8 b N v:=by
 have other:∀{v:DV},(match v.frz b with|some x=>K (.p x)|none=>none)=some d->(match v.frz b with|some x=>N (.p x)|none=>False):=by
  intro v h
  split at h
  ·exact hn _ h
  ·cases h
 cases v with
 |p x=>exact hn _ h
 |ow a b c=>exact hn _ h
 |top=>exact other (v:=.top) h
 |tup ds=>exact other (v:=.tup ds) h
 |addr a1 a2 a3 a4=>exact other (v:=.addr a1 a2 a3 a4) h
 |bs a1 a2 a3 a4 a5=>exact other (v:=.bs a1 a2 a3 a4 a5) h
 |fn a1 a2=>exact other (v:=.fn a1 a2) h
 |mh a1=>exact other (v:=.mh a1) h
 |ob a1=>exact other (v:=.ob a1) h
 |pk a1=>exact other (v:=.pk a1) h
 |agd a1=>exact other (v:=.agd a1) h
theorem J0{s:St}{K:TV->Option R}{rv:RV}{d:R}{N:TV->Prop}(hn:∀x,K x=some d->N x)(h:IF s K rv=some d):w8 s N rv:=by
 cases rv with
 |tmp t=>exact N0 hn h
 |cell t n=>
  simp only[IF] at h;simp only[w8]
  split at h
  ·rename_i heq;simp only[heq]
   split at h
   ·rename_i heq;simp only[heq]
    obtain⟨h1,h⟩:=aA h
    split at h
    ·rename_i hrow
     obtain⟨h2,h⟩:=aA h;refine⟨h1,_,hrow,h2,?_⟩
     split at h
     ·rename_i heq;simp only[heq];exact hn _ h
     ·cases h
    ·cases h
   ·cases h
  ·cases h
theorem tX{s:St}{rvs:List RV}:∀{K:List TV->Option R} {d:R} {N:List TV->Prop},(∀x,K x=some d->N x)->oS s rvs K=some d->gE s rvs N:=by
 induction rvs with
 |nil=>exact fun hn h=>hn _ h
 |cons r rs ih=>exact fun hn h=>J0 (fun x hx=>ih (fun xs hxs=>hn _ hxs) hx) h
def KL(v:Option DV):Option DV:=match v with
 |some v=>if v.plain then some v else none
 |none=>none
abbrev Tbl:=List (Nat×Fn)
def Tbl.get:Tbl->Nat->Option Fn
 |[],_=>none
 |(k,F) ::l,f=>if Nat.beq k f then some F else Tbl.get l f
theorem HL{b:List (Option Box)}{A B:TV->Prop}(hab:∀x,A x->B x){d:DV}(h:T8 b A d):T8 b B d:=by
 unfold T8 at h ⊢
 split at h
 ·exact hab _ h
 ·exact hab _ h
 ·split at h
  ·exact hab _ h
  ·exact h
theorem xC{s:St}{A B:TV->Prop}(hab:∀x,A x->B x){r:RV}(h:w8 s A r):w8 s B r:=by
 unfold w8 at h ⊢
 split at h
 ·exact HL hab h
 ·split at h
  ·split at h
   ·obtain⟨h1,row,h2,h3,h4⟩:=h
    refine⟨h1,row,h2,h3,?_⟩
    split at h4
    ·exact hab _ h4
    ·exact h4
   ·exact h
  ·exact h
theorem pI{s:St}:∀{rs:List RV} {A B:List TV->Prop},(∀x,A x->B x)->gE s rs A->gE s rs B
 |[],_,_,hab,h=>hab _ h
 |_ ::_,_,_,hab,h=>xC (fun x hx=>pI (fun xs h=>hab _ h) hx) h
theorem DQ{s:St}{A:Prop}{r:RV}(h:w8 s (fun _=>A) r):A:=by
 unfold w8 T8 at h
 split at h
 ·split at h
  ·exact h
  ·exact h
  ·split at h
   ·exact h
   ·exact h.elim
 ·split at h
  ·split at h
   ·obtain⟨h1,row,h2,h3,h4⟩:=h
    split at h4
    ·exact h4
    ·exact h4.elim
   ·exact h.elim
  ·exact h.elim
theorem tE{s:St}{A:Prop}:∀{rs:List RV},gE s rs (fun _=>A)->A
 |[],h=>h
 |_ ::_,h=>tE (DQ (xC (B:=fun _=>gE s _ fun _=>A) (fun _ h=>h) h))
def zW(nb:Nat)(size:Nat)(rv:List RV)(s:St):Option (List (List DV)×DV) :=
 match bF s.b nb with
 |some ⟨true,sz,rows,true⟩=>aG (sz=size) (oS s rv fun xs=>KU (cN xs) fun v=>some (rows,v))
 |_=>none
def FF(v:Option (List (List DV)×DV)):Option (List (List DV)×DV):=match v with
 |some (rows,v)=>if v.plain&&c9 rows then some (rows,v) else none
 |none=>none
def LK(nb:Nat):List Box->(List (Option Box)->Option R)->Option R
 |[],K=>K []
 |bx ::l,K=>mC (fun i=>some (nb+i)) bx.rows fun rows=>eK bx.size fun sz=>LK nb l fun l=>K (some ⟨true,sz,rows,true⟩ ::l)
theorem L5(nb:Nat)(l:List Box)(K:List (Option Box)->Option R):LK nb l K=K (NY nb l):=by
 induction l generalizing K with
 |nil=>rfl
 |cons x xs ih=>simp only[LK,NY,jV,cC];rw[ih]
def QS(n nb:Nat)(args:List DV)(bs:List Box)(K:St->Option R):Option R :=
 uU (fun i=>some (nb+i)) args fun xs=>fO (xs++List.replicate (n-args.length) .top) fun t=>LK nb bs fun l=>fO (List.replicate nb none++l) fun b=>K ⟨t,b⟩
theorem L7(n nb:Nat)(args:List DV)(bs:List Box)(K:St->Option R):QS n nb args bs K=K (LP n nb args bs):=by
 simp only[QS,wZ,fN,L5,LP]
def DS(s:St)(rvs:List RV)(K:DV->Option R):Option R :=
 match rvs with
 |[.tmp t]=>if PK s.b (aT s.t t)=true then K (aT s.t t) else oS s [.tmp t] fun xs=>K (cN xs)
 |rvs=>oS s rvs fun xs=>K (cN xs)
theorem GO{s:St}{rvs:List RV}{K:DV->Option R}{d:R}{N:DV->Prop}(hn:∀x,K x=some d->N x)(h:DS s rvs K=some d):r7 s rvs N:=by
 have gen:∀{l:List RV},(oS s l fun xs=>K (cN xs))=some d->gE s l fun xs=>N (cN xs):=fun h=>tX (fun xs hx=>hn _ hx) h
 match rvs,h with
 |[.tmp t],h=>
  simp only[DS] at h;simp only[r7]
  split at h
  ·rename_i hr;rw[if_pos hr];exact hn _ h
  ·rename_i hr;rw[if_neg hr];exact gen h
 |[],h=>exact gen h
 |[.cell t n],h=>exact gen h
 | .tmp _ ::_ ::_,h=>exact gen h
 | .cell _ _ ::_ ::_,h=>exact gen h
def pT(b:List (Option Box))(nb m:Nat)(ν:Nat->Option Nat):List Nat->(List (Option Box)->Option R)->Option R
 |[],K=>K []
 |k ::ks,K=>if nP b nb m k then match eH b k with
   |some bx=>mC ν bx.rows fun rows=>eK bx.size fun sz=>pT b nb m ν ks fun l=>K (some ⟨true,sz,rows,false⟩ ::l)
   |none=>pT b nb m ν ks fun l=>K (none ::l)
  else pT b nb m ν ks fun l=>K (none ::l)
theorem H1(b:List (Option Box))(nb m:Nat)(ν:Nat->Option Nat)(l:List Nat)(K:List (Option Box)->Option R):pT b nb m ν l K=K (oO b nb m ν l):=by
 induction l generalizing K with
 |nil=>rfl
 |cons x xs ih=>
  simp only[pT,oO,L9]
  split
  ·split<;>(rename_i heq;simp only[heq,jV,cC];rw[ih])
  ·rw[ih]
def I6(b:List (Option Box))(nb m:Nat)(r:DV)(K:List (Option Box)->DV->Option R):Option R :=
 vF (sZ b (eB nb m) (nT r [])) fun ws=>vF (eB nb m) fun rs=>kH b 4000 ws rs fun all=>pT b nb m (QA b nb m all) all fun bs=>FL (QA b nb m all) r fun r=>K bs r
theorem I8(b:List (Option Box))(nb m:Nat)(r:DV)(K:List (Option Box)->DV->Option R):I6 b nb m r K=K (AX b nb m r).1 (AX b nb m r).2:=by
 simp only[I6,BA,fD,H1,CN,AX,HV]
def y0(nb m:Nat)(rv:List RV)(s:St):Option (List (Option Box)×DV):=DS s rv fun r0=>KU r0 fun r0=>I6 s.b nb m r0 fun bs r=>some (bs,r)
def EH(m:Nat)(v:Option (List (Option Box)×DV)):Option (List (Option Box)×DV):=match v with
 |some (bs',r)=>if (r.plain||r.isRef)&&Nat.ble m bs'.length then some (bs',r) else none
 |none=>none
def rM(ext:FuncId->List PV->Option DV)(extO:FuncId->List DV->List Box->Option (List (Option Box)×DV))(tbl:Tbl):Nat->Env
 |0=>⟨fun _ _=>none,fun _ _ _ _=>none,fun _ _ _=>none⟩
 |n+1=>
  ⟨fun f args => match tbl.get f with
   |some F=>KL (iD (rM ext extO tbl n) (n+1) F.c (NW F.n F.nb args) (fun s=>oS s F.rv fun xs=>KU (cN xs) some) (fun _ _=>none) (fun s=>oS s F.rv fun xs=>KU (cN xs) some))
   |none=>ext f args,
   fun f size args rows=>match tbl.get f with
   |some F=>if (decide (size≠0))&&(c9 rows&&args.all DV.arg) then FF (iD (rM ext extO tbl n) (n+1) F.c (P7 F.n F.nb args size rows) (zW F.nb size F.rv) (fun _ _=>none) (zW F.nb size F.rv)) else none
   |none=>none,
   fun f args bs=>match tbl.get f with
   |some F=>if rC bs then EH bs.length (QS F.n F.nb args bs fun s=>iD (rM ext extO tbl n) (n+1) F.c s (y0 F.nb bs.length F.rv) (fun _ _=>none) (y0 F.nb bs.length F.rv)) else none
   |none=>extO f args bs⟩
structure TblOK (P:Program) (tbl:Tbl):Prop where
 all:∀f F,tbl.get f=some F->aC P f F=true
theorem TblOK.nil:TblOK P []:=⟨fun f F h=>by cases h⟩
theorem TblOK.cons{k:Nat}{F:Fn}{l:Tbl}(h:aC P k F=true)(hl:TblOK P l):TblOK P ((k,F) ::l):=by
 refine⟨fun f G hf=>?_⟩
 simp only[Tbl.get] at hf
 split at hf
 ·rename_i e
  have:k=f:=Nat.eq_of_beq_eq_true e;subst this;injection hf with hf
  subst hf;exact h
 ·exact hl.all f G hf
theorem p9{ext:FuncId->List PV->Option DV}{extO:FuncId->List DV->List Box->Option (List (Option Box)×DV)}(he:∀f a d,ext f a=some d->aB P f a d)(heO:∀f a bs bs' d,extO f a bs=some (bs',d)->aM P f a bs bs' d)
  {tbl:Tbl} (ht:TblOK P tbl):∀{n:Nat},(rM ext extO tbl n).OK P:=by
 intro n
 induction n with
 |zero=>exact⟨(fun f a d h=>by cases h),(fun f n a r r' d h=>by cases h),(fun f a bs bs' d h=>by cases h)⟩
 |succ n ih=>
  refine⟨fun f args d h=>?_,fun f size args rows rows' d h=>?_,fun f args bs bs' d h=>?_⟩
  ·simp only[rM] at h
   split at h
   ·rename_i F hF
    unfold KL at h
    split at h
    ·rename_i v hv
     split at h
     ·rename_i hp
      injection h with h
      subst h;have hpost:∀s:St,(oS s F.rv fun xs=>KU (cN xs) some)=some v->F.post v s:=fun s hs=>tX (fun xs hx=>by rw[pZ] at hx;injection hx) hs
      exact Fn.pure (ht.all _ _ hF) hp (yX ih hpost (fun _ _ h=>by cases h) hpost hv)
     ·cases h
    ·cases h
   ·exact he _ _ _ h
  ·simp only[rM] at h
   split at h
   ·rename_i F hF
    split at h
    ·rename_i hpre
     simp only[aY,decide_eq_true_eq] at hpre;unfold FF at h
     split at h
     ·rename_i rws v hv
      split at h
      ·rename_i hp
       simp only[aY] at hp;injection h with h
       injection h with h1 h2
       subst h1;subst h2
       have hpost:∀s:St,zW F.nb size F.rv s=some (rws,v)->F.postM size rws v s:=fun s hs=>by
        unfold zW at hs
        split at hs
        ·rename_i sz rows0 hg
         obtain⟨hsz,hs2⟩:=aA hs;subst hsz
         have:=tX (N:=fun xs=>rows0=rws/\cN xs=v) (fun xs hx=>by
          rw[pZ] at hx;injection hx with hx
          injection hx with hx1 hx2
          exact⟨hx1,hx2⟩) hs2
         refine⟨?_,pI (fun xs h=>h.2) this⟩
         have e:rows0=rws:=tE (pI (fun xs h=>h.1) this)
         rw[hg,e]
        ·cases hs
       exact Fn.mcall (ht.all _ _ hF) hp.1 hpre.2.1 hp.2 hpre.2.2 hpre.1 (yX ih hpost (fun _ _ h=>by cases h) hpost hv)
      ·cases h
     ·cases h
    ·cases h
   ·cases h
  ·simp only[rM] at h
   split at h
   ·rename_i F hF
    split at h
    ·rename_i hlv
     unfold EH at h
     split at h
     ·rename_i bs2 r2 hv
      split at h
      ·rename_i hp
       simp only[aY] at hp;injection h with h
       injection h with h1 h2
       subst h1;subst h2;rw[L7] at hv
       have hpost:∀s:St,y0 F.nb bs.length F.rv s=some (bs2,r2)->F.postO bs.length bs2 r2 s:=fun s hs=>by
        unfold y0 at hs;refine GO (fun x hx=>?_) hs
        simp only[pZ,I8,bQ] at hx;exact hx
       exact Fn.ocall (ht.all _ _ hF) hp.1 hlv hp.2 (yX ih hpost (fun _ _ h=>by cases h) hpost hv)
      ·cases h
     ·cases h
    ·cases h
   ·exact heO _ _ _ _ _ h
end Go.Proofs.YtnjphclbpgajpaaGreatDoor.Vc
namespace Go.Proofs.YtnjphclbpgajpaaGreatDoor
open Go.Shelf
def Tryz.lays156_ren:Go.Shelf.Ren:=⟨fun|156=>259|165=>268|166=>269|169=>270|240=>276|241=>277|276=>297|277=>298|n=>n,fun|31=>315|9=>9|3=>3|4=>4|0=>0|20=>20|72=>328|76=>331|70=>325|37=>326|75=>330|127=>338|164=>352|5=>5|80=>333|n=>n,fun|n=>n⟩
theorem Tryz.lays156:Go.Proofs.Lays.n156 Tryz.prog Tryz.lays156_ren:={
 mixed:=by kernel_rfl
 f156:=Tryz.func259.trans (congrArg some (by kernel_rfl))
 f165:=Tryz.func268.trans (congrArg some (by kernel_rfl))
 f166:=Tryz.func269.trans (congrArg some (by kernel_rfl))
 f169:=Tryz.func270.trans (congrArg some (by kernel_rfl))
 f240:=Tryz.func276.trans (congrArg some (by kernel_rfl))
 f241:=Tryz.func277.trans (congrArg some (by kernel_rfl))
 f276:=Tryz.func297.trans (congrArg some (by kernel_rfl))
 f277:=Tryz.func298.trans (congrArg some (by kernel_rfl))
 t0:=Tryz.underlying0
 a0:=Tryz.isAgg0
 z0:=Tryz.sizeOf0
 v0:=Tryz.zeroValue0
 t3:=Tryz.underlying3
 a3:=Tryz.isAgg3
 z3:=Tryz.sizeOf3
 v3:=Tryz.zeroValue3
 t4:=Tryz.underlying4
 a4:=Tryz.isAgg4
 z4:=Tryz.sizeOf4
 v4:=Tryz.zeroValue4
 t9:=Tryz.underlying9
 a9:=Tryz.isAgg9
 z9:=Tryz.sizeOf9
 v9:=Tryz.zeroValue9
 t20:=Tryz.underlying20
 a20:=Tryz.isAgg20
 z20:=Tryz.sizeOf20
 v20:=Tryz.zeroValue20
 t31:=Tryz.underlying315
 a31:=Tryz.isAgg315
 z31:=Tryz.sizeOf315
 v31:=Tryz.zeroValue315
 t37:=Tryz.underlying326
 a37:=Tryz.isAgg326
 z37:=Tryz.sizeOf326
 v37:=Tryz.zeroValue326
 t70:=Tryz.underlying325
 a70:=Tryz.isAgg325
 z70:=Tryz.sizeOf325
 v70:=Tryz.zeroValue325
 t72:=Tryz.underlying328
 a72:=Tryz.isAgg328
 z72:=Tryz.sizeOf328
 v72:=Tryz.zeroValue328
 t75:=Tryz.underlying330
 a75:=Tryz.isAgg330
 z75:=Tryz.sizeOf330
 v75:=Tryz.zeroValue330
 t76:=Tryz.underlying331
 a76:=Tryz.isAgg331
 z76:=Tryz.sizeOf331
 v76:=Tryz.zeroValue331
 t127:=Tryz.underlying338
 a127:=Tryz.isAgg338
 z127:=Tryz.sizeOf338
 v127:=Tryz.zeroValue338
 t164:=Tryz.underlying352
 a164:=Tryz.isAgg352
 z164:=Tryz.sizeOf352
 v164:=Tryz.zeroValue352 }
theorem Tryz.Builder_Extra_156:Builder.Extra Tryz.prog Tryz.lays156_ren:={
 sizeBuilder:=by kernel_rfl
 liesBuilder:=by kernel_rfl
 t5:=Tryz.underlying5
 a5:=Tryz.isAgg5
 z5:=Tryz.sizeOf5
 v5:=Tryz.zeroValue5
 infoByte:=by kernel_rfl
 cellsByte:=by kernel_rfl
 sizeByte:=by kernel_rfl
 neB5:=by decide }
open Go.RowKit in
theorem Tryz.strings_Join_none(a:Option Addr)(c:Nat)(sep:ByteArray)(w:World) :
  Calls Tryz.prog 259 #[.slice a 0 c,.string sep] w fun e w'=>e=.returned (.string ⟨#[]⟩)/\w'=w:=Any.strings_Join_none Tryz.lays156 Tryz.Builder_Extra_156 a c sep w
open Go.RowKit in
theorem Tryz.strings_Join(bk o c:Nat)(xs:List ByteArray)(sep:ByteArray)(w:World)(hcells:∀(j:Nat) x,xs[j]?=some x->w.cell? ⟨bk,o+j,none⟩=some (.string x))(hbk:bk<w.heap.size)(hN:xs.length<=140737488355328)(hcap:xs.length<=c)(hlen:(Lib.join (xs.map (·.data.toList)) sep.data.toList).length<=140737488355328) :
  Calls Tryz.prog 259 #[.slice (some ⟨bk,o,none⟩) xs.length c,.string sep] w fun e w'=>e=.returned (.string ⟨(Lib.join (xs.map (·.data.toList)) sep.data.toList).toArray⟩)/\Below w.heap.size w w':=Any.strings_Join Tryz.lays156 Tryz.Builder_Extra_156 bk o c xs sep w hcells hbk hN hcap hlen
end Go.Proofs.YtnjphclbpgajpaaGreatDoor
namespace Go.Proofs.YtnjphclbpgajpaaGreatDoor.Vc
open Go.RowKit
variable {P:Program}
theorem qX{f:FuncId}{args:List PV}{r:PV}{v:Value}{cs:Array Value}(hr:∀M w,Flat M w r v)(hcs:∀(M0:Nat->Nat->Prop) (w:World) (cargs:Array Value),cargs.size=args.length ->
  (∀(j:Nat) x u,args[j]?=some x->cargs[j]?=some u->Flat M0 w x u)->cargs=cs) (h:∀w,(callFunc f cs).run P w=.ok (.value v) w):aB P f args (.p r):=by
 refine⟨rfl,fun M0 w cargs hs ha=>.inr ⟨v,⟨fun _=>none,fun _=>none,M0,w,fun _=>none⟩,?_,hr _ _,fun _ _ _=>Iff.rfl,⟨rfl,rfl,rfl,Nat.le_refl _,fun _ _=>rfl⟩⟩⟩
 rw[hcs M0 w cargs hs ha];exact h w
theorem y2{M:Nat->Nat->Prop}{w:World}{s:ByteArray}{v:Value}(h:Flat M w (.str s) v):v=.string s:=by cases h;rfl
theorem sB{M:Nat->Nat->Prop}{w:World}{k:IntKind}{n:Int}{v:Value}(h:Flat M w (.int k n) v):v=.int k n:=by cases h;rfl
theorem oZ{s:ByteArray}{k:IntKind}{n:Int}(M0:Nat->Nat->Prop)(w:World)(cargs:Array Value)(hs:cargs.size=[PV.str s,PV.int k n].length)
  (ha:∀(j:Nat) x u,[PV.str s,PV.int k n][j]?=some x->cargs[j]?=some u->Flat M0 w x u):cargs = #[.string s,.int k n]:=by
 obtain⟨l⟩:=cargs
 match l,hs with
 |[a,b],_=>
  have h0:=y2 (ha 0 _ a rfl rfl);have h1:=sB (ha 1 _ b rfl rfl);rw[h0,h1]
theorem N9(s:ByteArray)(c:Int):aB Tryz.prog 324 [.str s,.int .u8 c] (.p (.int .i64 (Lib.indexByte s.data.toList c.toNat.toUInt8))):=by
 refine qX (fun _ _=>.int _ _) oZ fun w=>?_
 rw[run_callFunc_extern Tryz.func324 (by decide) rfl rfl (e:=Extern.BytealgIndexByte.indexByte) rfl]
 rw[Lib.run_indexByteString]
 rfl
theorem M7(s:ByteArray)(c:Int):aB Tryz.prog 301 [.str s,.int .u8 c] (.p (.int .i64 (Lib.countByte s.data.toList c.toNat.toUInt8))):=by
 refine qX (fun _ _=>.int _ _) oZ fun w=>?_
 rw[run_callFunc_extern Tryz.func301 (by decide) rfl rfl (e:=Extern.BytealgCount.count) rfl]
 rw[Lib.run_countString]
 rfl
theorem N3(x y c:Int)(hx:0<=x)(hy:0<=y)(hc0:0<=c)(hc:c<=1):aB Tryz.prog 243 [.int .u64 x,.int .u64 y,.int .u64 c]
  (.tup [.p (.int .u64 ((x+y+c)%18446744073709551616)),.p (.int .u64 ((x+y+c)/18446744073709551616))]):=by
 refine⟨rfl,fun M0 w cargs hs ha=>.inr ⟨.tuple #[.int .u64 ((x+y+c)%18446744073709551616),.int .u64 ((x+y+c)/18446744073709551616)],
  ⟨fun _=>none,fun _=>none,M0,w,fun _=>none⟩,?_,⟨_,rfl,rfl,?_⟩,fun _ _ _=>Iff.rfl,⟨rfl,rfl,rfl,Nat.le_refl _,fun _ _=>rfl⟩⟩⟩
 ·obtain⟨l⟩:=cargs
  match l,hs with
  |[p,q,r],_=>
   have h0:=sB (ha 0 _ p rfl rfl);have h1:=sB (ha 1 _ q rfl rfl);have h2:=sB (ha 2 _ r rfl rfl);rw[h0,h1,h2];rw[run_callFunc_extern Tryz.func243 (by decide) rfl rfl (e:=add64Entry) rfl]
   have:=run_add64 (P:=Tryz.prog) x y c hx hy hc0 hc w;rw[this]
   rfl
 ·intro j d u hj hu
  match j with
  |0=>cases hj;cases hu;exact .int _ _
  |1=>cases hj;cases hu;exact .int _ _
  |j+2=>simp at hj
def zK:List PV->Option (List ByteArray)
 |[]=>some []
 | .str s ::l=>match zK l with
  |some xs=>some (s ::xs)
  |none=>none
 |_=>none
theorem DO{l:List PV}:∀{xs:List ByteArray},zK l=some xs->l=xs.map .str:=by
 induction l with
 |nil=>intro xs h;cases h;rfl
 |cons a l ih=>
  intro xs h;unfold zK at h
  split at h
  ·rename_i heq;cases heq
  ·rename_i heq
   injection heq with e1 e2
   subst e1;subst e2
   split at h
   ·rename_i hx;injection h with h;subst h;rw[ih hx];rfl
   ·cases h
  ·cases h
theorem MR(size:Nat)(nl:Bool)(xs:List ByteArray)(sep:ByteArray)(hN:xs.length<=140737488355328)
  (hlen:(Lib.join (xs.map (·.data.toList)) sep.data.toList).length<=140737488355328) (hsz:size=1) :
  aB Tryz.prog 259 [.sl size nl (xs.map .str),.str sep] (.p (.str ⟨(Lib.join (xs.map (·.data.toList)) sep.data.toList).toArray⟩)):=by
 subst hsz;refine⟨rfl,fun M0 w cargs hs ha=>.inl ⟨⟨_,Tryz.func259,rfl,by decide⟩,?_⟩⟩
 obtain⟨l⟩:=cargs
 match l,hs with
 |[a,b],_=>
  have h0:=ha 0 _ a rfl rfl;have h1:=y2 (ha 1 _ b rfl rfl);subst h1
  cases xs with
  |nil=>
   have:∃ad c,a=.slice ad 0 c:=by
    cases h0 with
    |nilsl=>exact⟨_,_,rfl⟩
    |sl0=>exact⟨_,_,rfl⟩
    |sl=>exact⟨_,_,rfl⟩
   obtain⟨ad,c,rfl⟩:=this;refine(Tryz.strings_Join_none ad c sep w).mono fun e w' h=>?_
   obtain⟨h1,h2⟩:=h;subst h2;exact⟨_,⟨fun _=>none,fun _=>none,M0,w',fun _=>none⟩,h1,rfl,.str _,fun _ _ _=>Iff.rfl,⟨rfl,rfl,rfl,Nat.le_refl _,fun _ _=>rfl⟩⟩
  |cons x0 xs=>
   cases h0 with
   |sl _ _ bk off cap cv hcap hmax hc hrs h1 hr=>
    have hcell:∀(j:Nat) x,(x0 ::xs)[j]?=some x->w.cell? ⟨bk,off+j,none⟩=some (.string x):=by
     intro j x hj;have hjl:j<(x0 ::xs).length:=(bM.1 hj).1;have hf:=hr j 0 (.str x) (.str x) (by rw[List.getElem?_map,hj];rfl) rfl
     have:=(hc j (by simp only[List.length_map,Nat.mul_one];exact hjl)).1
     rw[this];simp only[Nat.mul_one,Nat.add_zero] at hf;rw[y2 hf]
    have hbk:bk<w.heap.size:=by
     have:=hcell 0 x0 rfl;unfold World.cell? at this
     by_cases hb:bk<w.heap.size
     ·exact hb
     ·have e:w.heap[bk]?=none:=Array.getElem?_eq_none (by omega)
      simp[e] at this
    have hcap':(x0 ::xs).length<=cap:=by simpa using hcap
    have hlm:((x0 ::xs).map PV.str).length=(x0 ::xs).length:=List.length_map _;rw[hlm];refine(Tryz.strings_Join bk off cap (x0 ::xs) sep w hcell hbk hN hcap' hlen).mono fun e w' h=>?_
    obtain⟨h1,h2⟩:=h;exact⟨_,⟨fun _=>none,fun _=>none,M0,w',fun _=>none⟩,h1,rfl,.str _,fun _ _ _=>Iff.rfl,h2⟩
def G2(f:FuncId)(args:List PV):Option DV :=
 match args with
 |[.str s,.int .u8 c]=>if Nat.beq f 324 then some (.p (.int .i64 (Lib.indexByte s.data.toList c.toNat.toUInt8)))
  else if Nat.beq f 301 then some (.p (.int .i64 (Lib.countByte s.data.toList c.toNat.toUInt8))) else none
 |[.int .u64 x,.int .u64 y,.int .u64 c]=>if Nat.beq f 243&&(decide (0<=x)&&(decide (0<=y)&&(decide (0<=c)&&decide (c<=1)))) then
  some (.tup [.p (.int .u64 ((x+y+c)%18446744073709551616)),.p (.int .u64 ((x+y+c)/18446744073709551616))]) else none
 |[.sl size _ rows,.str sep]=>if Nat.beq f 259 then match zK rows with
  |some xs=>if Nat.beq size 1&&(Nat.ble xs.length 1000&&Nat.ble (Lib.join (xs.map (·.data.toList)) sep.data.toList).length 100000) then some (.p (.str ⟨(Lib.join (xs.map (·.data.toList)) sep.data.toList).toArray⟩)) else none
  |none=>none
  else none
 |_=>none
theorem s8(f:FuncId)(args:List PV)(d:DV)(h:G2 f args=some d):aB Tryz.prog f args d:=by
 unfold G2 at h
 split at h
 ·split at h
  ·rename_i e
   have:=Nat.eq_of_beq_eq_true e;subst this;injection h with h;subst h
   exact N9 _ _
  ·split at h
   ·rename_i e
    have:=Nat.eq_of_beq_eq_true e;subst this;injection h with h;subst h
    exact M7 _ _
   ·cases h
 ·split at h
  ·rename_i e
   simp only[aY,decide_eq_true_eq] at e;obtain⟨e,h1,h2,h3,h4⟩:=e;have:=Nat.eq_of_beq_eq_true e;subst this;injection h with h;subst h
   exact N3 _ _ _ h1 h2 h3 h4
  ·cases h
 ·split at h
  ·rename_i e
   have:=Nat.eq_of_beq_eq_true e;subst this
   split at h
   ·rename_i hx
    split at h
    ·rename_i hh
     simp only[aY,Nat.ble_eq] at hh;injection h with h;subst h
     rw[DO hx];exact MR _ _ _ _ (by omega) (by omega) (Nat.eq_of_beq_eq_true hh.1)
    ·cases h
   ·cases h
  ·cases h
 ·cases h
open Go.RowKit Ma
def FJ(l:List Ld):Nat->Int->Option (Int×Bool)
 |0,_=>none
 |n+1,t=>if 20000<t then some (0,false) else IS (cT l t) fun a=>if a=t then some (t,true) else FJ l n a
theorem BV{l:List Ld}:∀{n:Nat} {t:Int} {r:Int×Bool},Seek l t->FJ l n t=some r->bK l=r:=by
 intro n
 induction n with
 |zero=>intro t r _ h;cases h
 |succ n ih=>
  intro t r hs h;simp only[FJ,zD] at h
  split at h
  ·rename_i ht
   injection h with h;subst h
   exact hs.never (by omega)
  ·rename_i ht
   split at h
   ·rename_i he
    injection h with h;subst h
    exact hs.found (by omega) he
   ·rename_i he
    exact ih (hs.next (by omega) he).1 h
def IG(l:List Ld):Nat->Bool
 |0=>true
 |n+1=>decide (cY l ((n:Int)+1)<=(n:Int)+1)&&IG l n
theorem HD{l:List Ld}{n:Nat}:IG l n=true↔∀t:Int,1<=t->t<=n->cY l t<=t:=by
 induction n with
 |zero=>simp only[IG,true_iff];intro t h1 h2;omega
 |succ n ih=>
  simp only[IG,aY,decide_eq_true_eq,ih]
  constructor
  ·rintro⟨h1,h2⟩ t h3 h4
   by_cases e:t=(n:Int)+1
   ·subst e;exact h1
   ·exact h2 t h3 (by omega)
  ·intro h
   exact⟨h _ (by omega) (by omega),fun t h1 h2=>h t h1 (by omega)⟩
def xJ(l:List Ld)(n:Nat):Option Bool :=
 if dY l=false then some false else if l.isEmpty then some true else match FJ l n 1 with
 |some (e,true)=>some (IG l e.toNat)
 |some (_,false)=>some false
 |none=>none
theorem jI{l:List Ld}{n:Nat}{b:Bool}(h:xJ l n=some b):dO l=b:=by
 unfold xJ at h
 split at h
 ·rename_i hm
  injection h with h;subst h
  rw[qT];intro hf;rw[hf.1] at hm;cases hm
 ·rename_i hm
  have hm:dY l=true:=by simpa using hm
  split at h
  ·rename_i he
   injection h with h;subst h
   exact eD.2 ⟨hm,.inl (List.isEmpty_iff.1 he)⟩
  ·rename_i he
   have hn:l≠[]:=fun e=>he (by rw[e];rfl)
   split at h
   ·rename_i e heq
    injection h with h;subst h
    have ht:=BV (Seek.start hm hn) heq;have hb:=(lK (by rw[ht])).2
    rcases hb with ⟨h0,_⟩|⟨_,hb⟩
    ·exact absurd h0 hn
    ·rw[ht] at hb
     have he1:=hb.lo;rw[Bool.eq_iff_iff,eD,HD]
     constructor
     ·rintro⟨_,h0|⟨e2,hb2,hd⟩⟩
      ·exact absurd h0 hn
      ·have:=hb2.uniq hb
       subst this;intro t h1 h2;exact hd t h1 (by simp only at h2 he1;omega)
     ·intro hd
      exact⟨hm,.inr ⟨e,hb,fun t h1 h2=>hd t h1 (by simp only at he1;omega)⟩⟩
   ·rename_i e heq
    injection h with h;subst h
    have ht:=BV (Seek.start hm hn) heq;rw[qT];rintro⟨_,h0|⟨e2,hb2,_⟩⟩
    ·exact hn h0
    ·rw[kI hm hn hb2] at ht
     cases ht
   ·cases h
def mD(l:List Ld)(d t:Int)(f:Nat):Nat->Option Int
 |0=>some 0
 |n+1=>match xJ (l++[⟨(n+1:Int),d,t⟩]) f with
  |some true=>some (n+1:Int)
  |some false=>mD l d t f n
  |none=>none
theorem zY{l:List Ld}{d t:Int}{f:Nat}:∀{n:Nat} {r:Int},mD l d t f n=some r->dD l d t n=r:=by
 intro n
 induction n with
 |zero=>intro r h;injection h
 |succ n ih=>
  intro r h;simp only[mD] at h;simp only[dD]
  split at h
  ·rename_i heq
   have hw:iP l (n+1:Int) d t=true:=jI heq;rw[if_pos hw];injection h
  ·rename_i heq
   have hw:iP l (n+1:Int) d t=false:=jI heq;rw[if_neg (by rw[hw];decide)];exact ih h
  ·cases h
def N5(l:List Ld)(d t:Int)(f:Nat):Option Bool:=match xJ l f with
 |some b=>some (decide (l.length<=23)&&(decide (1<=d)&&(decide (d<=t)&&(decide (t<=200)&&b))))
 |none=>none
def I5(l:List Ld)(d t m:Int)(f:Nat):Option Int:=match N5 l d t f with
 |some true=>mD l d t f (min m d).toNat
 |some false=>some 0
 |none=>none
theorem sH{l:List Ld}{d t:Int}{f:Nat}{b:Bool}(h:N5 l d t f=some b):vJ l d t=b:=by
 unfold N5 at h
 split at h
 ·rename_i heq
  injection h with h
  subst h;rw[<-jI heq];unfold vJ;simp only[Bool.and_assoc]
 ·cases h
theorem IO{l:List Ld}{d t m:Int}{f:Nat}{r:Int}(h:I5 l d t m f=some r):FV l d t m=r:=by
 unfold I5 at h;unfold FV
 split at h
 ·rename_i heq
  rw[if_pos (sH heq)];exact zY h
 ·rename_i heq
  rw[if_neg (by rw[sH heq];decide)];injection h
 ·cases h
def oY(l:List Ld)(t:Int)(f:Nat):Nat->Int->Option Int
 |0,c=>some c
 |n+1,c=>match xJ (l++[⟨c+1,c+1,t⟩]) f with
  |some true=>IS (c+1) fun c=>oY l t f n c
  |some false=>some c
  |none=>none
theorem CC{l:List Ld}{t:Int}{f:Nat}:∀{n:Nat} {c r:Int},oY l t f n c=some r->jJ l t n c=r:=by
 intro n
 induction n with
 |zero=>intro c r h;injection h
 |succ n ih=>
  intro c r h;simp only[oY,zD] at h;simp only[jJ]
  split at h
  ·rename_i heq
   have hw:iP l (c+1) (c+1) t=true:=jI heq;rw[if_pos hw];exact ih h
  ·rename_i heq
   have hw:iP l (c+1) (c+1) t=false:=jI heq;rw[if_neg (by rw[hw];decide)];injection h
  ·cases h
def E5(l:List Ld)(t m:Int)(f:Nat):Option Int:=match N5 l t t f with
 |some true=>oY l t f (min m t).toNat 0
 |some false=>some 0
 |none=>none
theorem GR{l:List Ld}{t m:Int}{f:Nat}{r:Int}(h:E5 l t m f=some r):z8 l t m=r:=by
 unfold E5 at h;unfold z8
 split at h
 ·rename_i heq
  rw[if_pos (sH heq)];exact CC h
 ·rename_i heq
  rw[if_neg (by rw[sH heq];decide)];injection h
 ·cases h
def wJ:List PV->Option (List Ld)
 |[]=>some []
 | .agg [.int .i64 c,.int .i64 d,.int .i64 t] ::l=>match wJ l with
  |some xs=>some (⟨c,d,t⟩ ::xs)
  |none=>none
 |_=>none
theorem qL{l:List PV}:∀{xs:List Ld},wJ l=some xs->l=xs.map eL:=by
 induction l with
 |nil=>intro xs h;cases h;rfl
 |cons a l ih=>
  intro xs h;unfold wJ at h
  split at h
  ·rename_i heq;cases heq
  ·rename_i heq
   injection heq with e1 e2
   subst e1;subst e2
   split at h
   ·rename_i hx;injection h with h;subst h;rw[ih hx];rfl
   ·cases h
  ·cases h
def HY(f:FuncId)(args:List PV):Option DV :=
 match args with
 |[.sl size nl rows]=>if Nat.beq f 136&&Nat.beq size 3 then match wJ rows with
  |some l=>match xJ l 300 with
   |some b=>some (.p (.bool b))
   |none=>none
  |none=>none
  else G2 f args
 |[.sl size nl rows,.int .i64 d,.int .i64 t,.int .i64 m]=>if Nat.beq f 130&&(Nat.beq size 3&&((!nl||rows.isEmpty)&&(Nat.ble rows.length 1000&&decide (-1000000<=m)))) then match wJ rows with
  |some l=>match I5 l d t m 300 with
   |some b=>some (.p (.int .i64 b))
   |none=>none
  |none=>none
  else G2 f args
 |[.sl size nl rows,.int .i64 t,.int .i64 m]=>if Nat.beq f 135&&(Nat.beq size 3&&((!nl||rows.isEmpty)&&Nat.ble rows.length 1000)) then match wJ rows with
  |some l=>match E5 l t m 300 with
   |some b=>some (.p (.int .i64 b))
   |none=>none
  |none=>none
  else G2 f args
 |_=>G2 f args
theorem xO(f:FuncId)(args:List PV)(d:DV)(h:HY f args=some d):aB Tryz.prog f args d:=by
 unfold HY at h
 split at h
 ·split at h
  ·rename_i e
   simp only[aY] at e;have e1:=Nat.eq_of_beq_eq_true e.1;have e2:=Nat.eq_of_beq_eq_true e.2;subst e1;subst e2
   split at h
   ·rename_i hx
    split at h
    ·rename_i hb
     injection h with h;subst h
     rw[qL hx, <-jI hb];exact CT _ _
    ·cases h
   ·cases h
  ·exact s8 _ _ _ h
 ·split at h
  ·rename_i e
   simp only[aY,Bool.or_eq_true,Bool.not_eq_true',decide_eq_true_eq,Nat.ble_eq] at e;obtain⟨e1,e2,e3,e4,e5⟩:=e;have e1:=Nat.eq_of_beq_eq_true e1;have e2:=Nat.eq_of_beq_eq_true e2;subst e1;subst e2
   split at h
   ·rename_i l hx
    split at h
    ·rename_i hb
     injection h with h;subst h
     have hr:=qL hx;subst hr;rw[<-IO hb];refine WG _ l (fun hn=>?_) (by simpa using e4) _ _ _ e5
     rcases e3 with e3|e3
     ·rw[hn] at e3;cases e3
     ·simpa using e3
    ·cases h
   ·cases h
  ·exact s8 _ _ _ h
 ·split at h
  ·rename_i e
   simp only[aY,Bool.or_eq_true,Bool.not_eq_true',Nat.ble_eq] at e;obtain⟨e1,e2,e3,e4⟩:=e;have e1:=Nat.eq_of_beq_eq_true e1;have e2:=Nat.eq_of_beq_eq_true e2;subst e1;subst e2
   split at h
   ·rename_i l hx
    split at h
    ·rename_i hb
     injection h with h;subst h
     have hr:=qL hx;subst hr;rw[<-GR hb];refine N4 _ l (fun hn=>?_) (by simpa using e4) _ _
     rcases e3 with e3|e3
     ·rw[hn] at e3;cases e3
     ·simpa using e3
    ·cases h
   ·cases h
  ·exact s8 _ _ _ h
 ·exact s8 _ _ _ h
open Go.RowKit
def V1:Tbl:=[(155,SK),(52,F52),(86,ZG),(185,S6),(50,F50),(82,F82),(51,F51),(186,R3),(187,Q3),(26,YH),(184,P9),(138,QQ),(139,SX),(137,OB),(80,F80),(81,F81),(218,RP),(219,SP),(83,F83),(84,ZY),(129,QV),(85,ZM),(220,RL),(217,PP),(174,QD),(175,T5),(126,QN),(127,RR),(128,PZ),(242,R0),(131,RF),(132,T6),(67,F67),(133,S8),(134,SA),(68,F68),(154,OD),(240,OY),(188,SS),(158,PD),(149,QW),(241,QC),(209,PS),(210,R7),(211,RO),(168,OH),(169,Q2),(170,OS),(171,RH),(97,F97),(172,QG),(173,RU),(98,F98),(183,ST),(177,OX),(249,R2),(180,O8),(196,QY),(232,SU),(233,RX),(234,P4),(235,RE),(236,Q4),(198,OG),(208,OR),(216,R6),(215,PI),(213,QJ),(250,PJ),(214,OQ),(247,SM),(239,S0),(237,PA),(238,R4),(251,Q7),(248,OA),(252,PO),(253,SN),(254,R9),(255,RC),(121,QP),(256,PX),(257,Q8),(258,OF),(260,SH),(261,SY),(262,XT),(263,RJ),(166,SV),(264,OJ),(265,PL),(266,OM),(267,O9),(271,PC),(272,UN),(273,QU),(193,PB),(194,RA),(195,RW),(197,S3),(274,SC),(275,SD),(279,Q9),(280,P8),(281,TP),(283,PR),(221,QR),(222,OI),(223,RM),(224,QL),(225,Q6),(284,RI),(290,PN),(293,RN),(302,W7),(307,RS),(244,SO),(319,QB)]
theorem NK:TblOK Tryz.prog V1:=.cons V7 <| .cons k52 <| .cons k86 <| .cons WY <| .cons k50 <| .cons k82 <| .cons k51 <| .cons XP <| .cons UR <| .cons ZB <| .cons V9 <| .cons VE <| .cons WR <| .cons LT <| .cons k80 <| .cons k81 <| .cons TL <| .cons XW <| .cons k83 <| .cons k84 <| .cons Q0 <| .cons k85 <| .cons U5 <| .cons VW <| .cons J7 <| .cons LA <| .cons S2 <| .cons VT <| .cons VF <| .cons UP <| .cons YE <| .cons TT <| .cons k67 <| .cons XN <| .cons X4 <| .cons k68 <| .cons U2 <| .cons U6 <| .cons XX <| .cons XH <| .cons XB <| .cons U3 <| .cons T7 <| .cons RZ <| .cons OZ <| .cons XG <| .cons RY <| .cons LJ <| .cons X8 <| .cons k97 <| .cons XD <| .cons UZ <| .cons k98 <| .cons V0 <| .cons W5 <| .cons VS <| .cons XF <| .cons P0 <| .cons SE <| .cons QE <| .cons QT <| .cons PW <| .cons LV <| .cons UJ <| .cons XL <| .cons WM <| .cons Y2 <| .cons X9 <| .cons WV <| .cons UU <| .cons PT <| .cons UB <| .cons XO <| .cons VR <| .cons WJ <| .cons XJ <| .cons VJ <| .cons XQ <| .cons UE <| .cons US <| .cons V8 <| .cons TZ <| .cons YD <| .cons V4 <| .cons WS <| .cons VL <| .cons a0R <| .cons XS <| .cons TY <| .cons Y7 <| .cons VV <| .cons U9 <| .cons TS <| .cons V3 <| .cons a0Z <| .cons VO <| .cons TJ <| .cons UC <| .cons YC <| .cons W4 <| .cons Y5 <| .cons YF <| .cons W0 <| .cons UI <| .cons a1R <| .cons Y3 <| .cons X3 <| .cons WZ <| .cons UM <| .cons WN <| .cons XY <| .cons UV <| .cons XC <| .cons UG <| .cons YZ <| .cons VU <| .cons WF <| .cons W3 <| .nil
def TU:FuncId->List DV->List Box->Option (List (Option Box)×DV):=fun _ _ _=>none
theorem yW{P:Program}(f:FuncId)(a:List DV)(bs:List Box)(bs':List (Option Box))(d:DV)(h:TU f a bs=some (bs',d)):aM P f a bs bs' d:=by cases h
def ZS(n:Nat):Env:=rM HY TU V1 n
theorem mF(n:Nat):(ZS n).OK Tryz.prog:=p9 xO yW NK
end Go.Proofs.YtnjphclbpgajpaaGreatDoor.Vc
