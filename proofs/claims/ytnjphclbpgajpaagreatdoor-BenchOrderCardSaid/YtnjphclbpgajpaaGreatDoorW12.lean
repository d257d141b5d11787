/- Part of a proof over a Go program: VcRun, JoinLay, Ext, Ex2, Tbl. No condition. -/
import Derived.Test.YtnjphclbpgajpaaGreatDoorW08
import Derived.Shelf.Strings.Builder1
import Derived.Shelf.Strings.Builder2
import Derived.Shelf.Strings.OnBuilder
import Derived.Shelf.LaysM
import Derived.Ground.Names2Prog
import Derived.Test.YtnjphclbpgajpaaGreatDoorProg
import Derived.Lib.Bytealg
import Derived.Laws.Externs
import Derived.Test.YtnjphclbpgajpaaGreatDoorW09
import Derived.Test.YtnjphclbpgajpaaGreatDoorW11
set_option linter.unnecessarySimpa false
set_option linter.unusedSectionVars false
set_option linter.unusedSimpArgs false
set_option linter.unusedVariables false
set_option maxRecDepth 100000
namespace Go.Proofs.YtnjphclbpgajpaaGreatDoor.Vc
open Go.RowKit
variable {P:Program}
section force
variable {R:Type}
def dM(n:Nat)(K:Nat->R):R:=match n with
 |0=>K 0
 |n+1=>K (n+1)
theorem bN(n:Nat)(K:Nat->R):dM n K=K n:=by cases n<;>rfl
def F2(n:Int)(K:Int->R):R:=match n with
 | .ofNat m=>dM m fun m=>K (.ofNat m)
 | .negSucc m=>dM m fun m=>K (.negSucc m)
theorem uU(n:Int)(K:Int->R):F2 n K=K n:=by cases n<;>simp[F2,bN]
def sG(n:Bool)(K:Bool->R):R:=match n with
 |true=>K true
 |false=>K false
theorem lF(n:Bool)(K:Bool->R):sG n K=K n:=by cases n<;>rfl
def eK{α:Type}:List α->(List α->R)->R
 |[],K=>K []
 |x ::xs,K=>eK xs fun ys=>K (x ::ys)
theorem eJ{α:Type}(l:List α)(K:List α->R):eK l K=K l:=by
 induction l generalizing K with
 |nil=>rfl
 |cons x xs ih=>simp only[eK];rw[ih]
def v8:List UInt8->(List UInt8->R)->R
 |[],K=>K []
 |x ::xs,K=>dM x.toNat fun n=>v8 xs fun ys=>K (UInt8.ofNat n ::ys)
theorem BP(l:List UInt8)(K:List UInt8->R):v8 l K=K l:=by
 induction l generalizing K with
 |nil=>rfl
 |cons x xs ih=>simp only[v8,bN];rw[ih];simp
def M2(s:ByteArray)(K:ByteArray->R):R:=v8 s.data.toList fun l=>K ⟨⟨l⟩⟩
theorem J6(s:ByteArray)(K:ByteArray->R):M2 s K=K s:=by
 unfold M2;rw[BP]
def UU(x:PV)(K:PV->R):R:=match x with
 | .int k n=>F2 n fun n=>K (.int k n)
 | .bool b=>sG b fun b=>K (.bool b)
 | .str s=>M2 s fun s=>K (.str s)
 | .atom v=>K (.atom v)
 | .agg cs=>eK cs fun cs=>K (.agg cs)
 | .sl n b rows=>sG b fun b=>eK rows fun rows=>K (.sl n b rows)
 | .fn f caps=>eK caps fun caps=>K (.fn f caps)
 | .ptr cells off=>eK cells fun cells=>dM off fun off=>K (.ptr cells off)
theorem EG(x:PV)(K:PV->R):UU x K=K x:=by cases x<;>simp[UU,uU,lF,J6,eJ,bN]
def GU(v:DV)(K:DV->R):R:=match v with
 | .top=>K .top
 | .p x=>UU x fun x=>K (.p x)
 | .ow a b c=>sG b fun b=>eK c fun c=>K (.ow a b c)
 | .tup ds=>eK ds fun ds=>K (.tup ds)
 | .addr a b c d=>dM a fun a=>dM c fun c=>dM d fun d=>K (.addr a b c d)
 | .bs a b c d e=>dM a fun a=>dM d fun d=>dM e fun e=>K (.bs a b c d e)
 | .fn f cs=>eK cs fun cs=>K (.fn f cs)
 | .mh k=>dM k fun k=>K (.mh k)
 | .ob T=>K (.ob T)
 | .pk o=>K (.pk o)
 | .agd cs=>K (.agd cs)
theorem nJ(v:DV)(K:DV->R):GU v K=K v:=by cases v<;>simp[GU,EG,lF,eJ,bN]
def AF:List (List DV)->(List (List DV)->R)->R
 |[],K=>K []
 |x ::xs,K=>eK x fun x=>AF xs fun ys=>K (x ::ys)
theorem DG(l:List (List DV))(K:List (List DV)->R):AF l K=K l:=by
 induction l generalizing K with
 |nil=>rfl
 |cons x xs ih=>simp only[AF,eJ];rw[ih]
def oM(b:Option Box)(K:Option Box->R):R:=match b with
 |none=>K none
 |some ⟨l,s,rows,o⟩=>sG l fun l=>AF rows fun rows=>K (some ⟨l,s,rows,o⟩)
theorem eC(b:Option Box)(K:Option Box->R):oM b K=K b:=by
 cases b with
 |none=>rfl
 |some b=>cases b;simp[oM,lF,DG]
def nO{α:Type}:List α->Nat -> α->(List α->R)->R
 |[],_,_,K=>K []
 |_ ::xs,0,v,K=>K (v ::xs)
 |x ::xs,n+1,v,K=>nO xs n v fun ys=>K (x ::ys)
theorem i5{α:Type}(l:List α)(n:Nat)(v : α)(K:List α->R):nO l n v K=K (aJ l n v):=by
 induction l generalizing n K with
 |nil=>rfl
 |cons x xs ih=>cases n with
  |zero=>rfl
  |succ n=>simp only[nO,aJ];rw[ih]
end force
def lC(k:IntKind)(n:Int):Int:=match k with
 | .i64=>bif decide (-9223372036854775808<=n)&&decide (n<=9223372036854775807) then n else k.wrap n
 |k=>k.wrap n
theorem rD(k:IntKind)(n:Int):lC k n=k.wrap n:=by
 unfold lC
 split
 ·cases h:(decide (-9223372036854775808<=n)&&decide (n<=9223372036854775807))
  ·rfl
  ·simp only[b6,decide_eq_true_eq] at h
   exact(bJ h.1 h.2).symm
 ·rfl
def aN{R:Type}(A:Prop)[Decidable A](K:Option R):Option R:=if A then K else none
theorem aD{R:Type}{A:Prop}[Decidable A]{K:Option R}{r:R}(h:aN A K=some r):A/\K=some r:=by
 unfold aN at h
 split at h
 ·exact⟨by assumption,h⟩
 ·cases h
variable {R:Type}
structure Env where
 call:FuncId->List PV->Option DV
 callM:FuncId->Nat->List DV->List (List DV)->Option (List (List DV)×DV)
 callO:FuncId->List DV->List Box->Option (List (Option Box)×DV)
structure Env.OK (P:Program) (E:Env):Prop where
 call:∀f a d,E.call f a=some d->aO P f a d
 callM:∀f n a rows rows' d,E.callM f n a rows=some (rows',d)->AX P f n a rows rows' d
 callO:∀f a bs bs' d,E.callO f a bs=some (bs',d)->aX P f a bs bs' d
def N8(op:BinOp)(x y:PV)(K:PV->Option R):Option R :=
 match x,y with
 | .int k a,.int k' b=>match op with
  | .add=>aN (k=k') (K (.int k (lC k (a+b))))
  | .sub=>aN (k=k') (K (.int k (lC k (a-b))))
  | .mul=>aN (k=k') (K (.int k (lC k (a*b))))
  | .quo=>aN (k=k') (aN (b≠0) (K (.int k (lC k (a.tdiv b)))))
  | .rem=>aN (k=k') (aN (b≠0) (K (.int k (a.tmod b))))
  | .and=>aN (k=k') (K (.int k (cC .and k a b)))
  | .or=>aN (k=k') (K (.int k (cC .or k a b)))
  | .xor=>aN (k=k') (K (.int k (cC .xor k a b)))
  | .andNot=>aN (k=k') (K (.int k (cC .andNot k a b)))
  | .shl=>aN (0<=b) (K (.int k (lC k (a*2 ^ (min b.toNat k.bits)))))
  | .shr=>aN (0<=b) (K (.int k (a.fdiv (2 ^ (min b.toNat k.bits)))))
  | .eql=>aN (k=k') (K (.bool (a ==b)))
  | .neq=>aN (k=k') (K (.bool (a !=b)))
  | .lss=>aN (k=k') (K (.bool (decide (a<b))))
  | .leq=>aN (k=k') (K (.bool (decide (a<=b))))
  | .gtr=>aN (k=k') (K (.bool (decide (a>b))))
  | .geq=>aN (k=k') (K (.bool (decide (a≥b))))
 | .str a,.str b=>match op with
  | .eql=>K (.bool (a.toList ==b.toList))
  | .neq=>K (.bool !(a.toList ==b.toList))
  | .add=>aN (a.size+b.size<=140737488355328) (K (.str (a++b)))
  |_=>none
 |_,_=>none
theorem HU{op:BinOp}{x y:PV}{K:PV->Option R}{r:R}(h:N8 op x y K=some r):hJ op x y fun z=>K z=some r:=by
 unfold N8 at h
 split at h
 ·cases op<;>simp only[rD] at h<;>simp only[hJ]<;>first
   |exact aD h
   |(obtain⟨h1,h2⟩:=aD h;obtain⟨h2,h3⟩:=aD h2;exact⟨h1,h2,h3⟩)
 ·cases op<;>simp only[hJ]<;>first|exact h|exact aD h|(simp at h)
 ·cases h
def vT(cells:List PV)(off n:Nat)(isAgg:Bool)(K:PV->Option R):Option R :=
 if isAgg then aN (off+n<=cells.length) (K (.agg (nZ cells off n)))
 else match cells[off]? with
  |some c=>K c
  |none=>none
theorem r9{cells:List PV}{off n:Nat}{isAgg:Bool}{K:PV->Option R}{r:R}(h:vT cells off n isAgg K=some r):eT cells off n isAgg fun x=>K x=some r:=by
 unfold vT at h;unfold eT
 split at h
 ·rename_i hi;rw[if_pos hi];exact aD h
 ·rename_i hi
  rw[if_neg hi]
  split at h
  ·exact⟨_,by assumption,h⟩
  ·cases h
def qP:List Nat->(List Nat->Option R)->Option R
 |[],K=>K []
 |x ::xs,K=>dM x fun x=>qP xs fun ys=>K (x ::ys)
theorem wX(l:List Nat)(K:List Nat->Option R):qP l K=K l:=by
 induction l generalizing K with
 |nil=>rfl
 |cons x xs ih=>simp only[qP,bN];rw[ih]
def iE(b:List (Option Box)):Nat->List Nat->List Nat->(List Nat->Option R)->Option R
 |0,_,ks,K=>K ks
 |_+1,[],ks,K=>K ks
 |n+1,k ::ws,ks,K=>if lU k ks then iE b n ws ks K else match dK b k with
  |some bx=>if bx.live then qP (ks++[k]) fun ks=>bif bS bx.rows then iE b n ws ks K else qP (n7 bx.rows ws) fun ws=>iE b n ws ks K else iE b n ws ks K
  |none=>iE b n ws ks K
theorem dZ(b:List (Option Box)):∀(n:Nat) (ws ks:List Nat) (K:List Nat->Option R),iE b n ws ks K=K (d9 b n ws ks)
 |0,_,_,_=>rfl
 |_+1,[],_,_=>rfl
 |n+1,k ::ws,ks,K=>by
  simp only[iE,d9,wX]
  by_cases hk:lU k ks=true
  ·rw[if_pos hk,if_pos hk];exact dZ b n ws ks K
  ·rw[if_neg hk,if_neg hk]
   cases dK b k with
   |none=>exact dZ b n ws ks K
   |some bx=>
    simp only
    by_cases hl:bx.live=true
    ·rw[if_pos hl,if_pos hl]
     cases bS bx.rows
     ·exact dZ b n _ _ K
     ·exact dZ b n _ _ K
    ·rw[if_neg hl,if_neg hl];exact dZ b n ws ks K
def pD:List CapV->(List CapV->Option R)->Option R
 |[],K=>K []
 | .p x ::cs,K=>pD cs fun l=>K (.p x ::l)
 | .addr k sz r o ::cs,K=>dM k fun k=>pD cs fun l=>K (.addr k sz r o ::l)
theorem CP(l:List CapV)(K:List CapV->Option R):pD l K=K l:=by
 induction l generalizing K with
 |nil=>rfl
 |cons x xs ih=>cases x<;>simp only[pD,bN]<;>rw[ih]
def j3(ν:Nat->Option Nat)(d:DV)(K:DV->Option R):Option R:=match d with
 | .p x=>K (.p x)
 | .ow size nl rows=>K (.p (.sl size nl rows))
 | .addr k sz r o=>match ν k with
  |some k'=>dM k' fun k'=>K (.addr k' sz r o)
  |none=>K .top
 | .bs k sz ag lo n=>match ν k with
  |some k'=>dM k' fun k'=>K (.bs k' sz ag lo n)
  |none=>K .top
 | .mh k=>match ν k with
  |some k'=>dM k' fun k'=>K (.mh k')
  |none=>K .top
 | .fn f caps=>match nR ν caps with
  |some l=>pD l fun l=>K (.fn f l)
  |none=>K .top
 | .ob T=>K (.ob T)
 |_=>K .top
theorem nP(ν:Nat->Option Nat)(d:DV)(K:DV->Option R):j3 ν d K=K (bQ ν d):=by
 cases d with
 |addr k sz r o=>simp only[j3,bQ];split<;>(rename_i heq;simp only[heq,bN])
 |bs k sz ag lo n=>simp only[j3,bQ];split<;>(rename_i heq;simp only[heq,bN])
 |mh k=>simp only[j3,bQ];split<;>(rename_i heq;simp only[heq,bN])
 |fn f caps=>simp only[j3,bQ];split<;>(rename_i heq;simp only[heq,CP])
 |_=>rfl
def pX(ν:Nat->Option Nat):List DV->(List DV->Option R)->Option R
 |[],K=>K []
 |d ::ds,K=>j3 ν d fun d=>pX ν ds fun l=>K (d ::l)
theorem sN(ν:Nat->Option Nat)(l:List DV)(K:List DV->Option R):pX ν l K=K (pJ ν l):=by
 induction l generalizing K with
 |nil=>rfl
 |cons x xs ih=>simp only[pX,pJ,nP];rw[ih]
def lZ(ν:Nat->Option Nat):List (List DV)->(List (List DV)->Option R)->Option R
 |[],K=>K []
 |d ::ds,K=>pX ν d fun d=>lZ ν ds fun l=>K (d ::l)
theorem wH(ν:Nat->Option Nat)(l:List (List DV))(K:List (List DV)->Option R):lZ ν l K=K (k7 ν l):=by
 induction l generalizing K with
 |nil=>rfl
 |cons x xs ih=>simp only[lZ,k7,sN];rw[ih]
def jX(ν:Nat->Option Nat)(rows:List (List DV))(K:List (List DV)->Option R):Option R:=bif bS rows then K rows else lZ ν rows K
theorem iC(ν:Nat->Option Nat)(l:List (List DV))(K:List (List DV)->Option R):jX ν l K=K (cM ν l):=by
 unfold jX cM;cases bS l
 ·exact wH ν l K
 ·rfl
def B8(b:List (Option Box))(ν:Nat->Option Nat):List DV->(List DV->Option R)->Option R
 |[],K=>K []
 |d ::ds,K=>B8 b ν ds fun xs=>match d.frz b with
  |some x=>UU x fun x=>K (.p x ::xs)
  |none=>if d.isRefF then j3 ν d fun d=>K (d ::xs) else none
theorem wV{b:List (Option Box)}{ν:Nat->Option Nat}{r:R}:∀{l:List DV} {K:List DV->Option R},B8 b ν l K=some r->∃xs,jB b ν l=some xs/\K xs=some r
 |[],K,h=>⟨[],rfl,h⟩
 |d ::ds,K,h=>by
  simp only[B8] at h;obtain⟨xs,h1,h2⟩:=wV h;simp only[jB,h1]
  split at h2
  ·rename_i x hx;rw[EG] at h2;rw[hx];exact⟨_,rfl,h2⟩
  ·rename_i hx
   rw[hx]
   split at h2
   ·rename_i hr;rw[nP] at h2;rw[if_pos hr];exact⟨_,rfl,h2⟩
   ·cases h2
def DS(b:List (Option Box))(ν:Nat->Option Nat)(k:Nat)(K:Box->Option R):Option R :=
 match dK b k with
 |some bx=>jX ν bx.rows fun rows=>dM bx.size fun sz=>K ⟨true,sz,rows,true⟩
 |none=>K ⟨true,1,[],true⟩
def u7(b:List (Option Box))(ν:Nat->Option Nat):List Nat->(List Box->Option R)->Option R
 |[],K=>K []
 |k ::ks,K=>DS b ν k fun bx=>u7 b ν ks fun l=>K (bx ::l)
theorem CO(b:List (Option Box))(ν:Nat->Option Nat)(l:List Nat)(K:List Box->Option R):u7 b ν l K=K (iP b ν l):=by
 induction l generalizing K with
 |nil=>rfl
 |cons x xs ih=>
  simp only[u7,iP,DS,wG]
  split<;>(rename_i heq;simp only[heq,iC,bN];rw[ih])
def uP(ν:Nat->Option Nat)(old:Bool)(x:Option Box)(K:Option Box->Option R):Option R:=match x with
 |some bx=>jX ν bx.rows fun rows=>dM bx.size fun sz=>sG old fun old=>K (some ⟨true,sz,rows,old⟩)
 |none=>K none
theorem tO(ν:Nat->Option Nat)(old:Bool)(x:Option Box)(K:Option Box->Option R):uP ν old x K=K (lI ν old x):=by
 cases x with
 |none=>rfl
 |some x=>simp only[uP,lI,iC,bN,lF]
def BE(ν:Nat->Option Nat):List (Option Box)->(List (Option Box)->Option R)->Option R
 |[],K=>K []
 |x ::l,K=>uP ν false x fun x=>BE ν l fun l=>K (x ::l)
theorem G4(ν:Nat->Option Nat)(l:List (Option Box))(K:List (Option Box)->Option R):BE ν l K=K (s7 ν l):=by
 induction l generalizing K with
 |nil=>rfl
 |cons x xs ih=>simp only[BE,s7,tO];rw[ih]
def pR(ν:Nat->Option Nat):List Nat->List (Option Box)->List (Option Box)->(List (Option Box)->Option R)->Option R
 |[],l,b,K=>BE ν l fun l=>eK (b++l) K
 |k ::ks,x ::l,b,K=>uP ν (nN b k) x fun x=>nO b k x fun b=>pR ν ks l b K
 |_ ::_,[],b,K=>K b
theorem sD(ν:Nat->Option Nat):∀(ks:List Nat) (l b:List (Option Box)) (K:List (Option Box)->Option R),pR ν ks l b K=K (eE ν ks l b)
 |[],l,b,K=>by simp only[pR,eE,G4,eJ]
 |k ::ks,x ::l,b,K=>by simp only[pR,eE,tO,i5];exact sD ν ks l _ K
 |_ ::_,[],b,K=>rfl
def A8(ν:Nat->Option Nat)(r:DV)(K:DV->Option R):Option R:=if r.plain then K r else j3 ν r K
theorem xH(ν:Nat->Option Nat)(r:DV)(K:DV->Option R):A8 ν r K=K (pN ν r):=by
 unfold A8 pN;split<;>first|simp only[nP]|rfl
def PO:List UInt8->List UInt8->Bool
 |[],[]=>true
 |a ::l,b ::m=>decide (a=b)&&PO l m
 |_,_=>false
theorem GO:∀{l m:List UInt8},PO l m=true->l=m
 |[],[],_=>rfl
 |a ::l,b ::m,h=>by simp only[PO,b6,decide_eq_true_eq] at h;rw[h.1,GO h.2]
 |[],_ ::_,h=>by simp[PO] at h
 |_ ::_,[],h=>by simp[PO] at h
def VD(a b:Value):Bool:=match a,b with
 | .pointer none,.pointer none=>true
 |_,_=>false
theorem L4{a b:Value}(h:VD a b=true):a=b:=by
 unfold VD at h
 split at h
 ·rfl
 ·cases h
mutual
def AH:PV->PV->Bool
 | .int k n,.int k' n'=>decide (k=k')&&decide (n=n')
 | .bool a,.bool b=>decide (a=b)
 | .str s,.str t=>PO s.data.toList t.data.toList
 | .agg a,.agg b=>oN a b
 | .sl n x a,.sl n' x' b=>decide (n=n')&&(decide (x=x')&&oN a b)
 | .fn f a,.fn g b=>decide (f=g)&&oN a b
 | .ptr a o,.ptr b o'=>decide (o=o')&&oN a b
 | .atom v,.atom u=>VD v u
 |_,_=>false
def oN:List PV->List PV->Bool
 |[],[]=>true
 |a ::l,b ::m=>AH a b&&oN l m
 |_,_=>false
end
mutual
theorem pP:∀{a b:PV},AH a b=true->a=b
 | .int k n,b,h=>by cases b<;>simp[AH] at h;rw[h.1,h.2]
 | .bool x,b,h=>by cases b<;>simp[AH] at h;rw[h]
 | .str s,b,h=>by
  cases b<;>simp only[AH,Bool.false_eq_true] at h
  rw[uW (GO h)]
 | .agg l,b,h=>by cases b<;>simp only[AH,Bool.false_eq_true] at h;rw[gB h]
 | .sl n x l,b,h=>by
  cases b<;>simp only[AH,Bool.false_eq_true,b6,decide_eq_true_eq] at h
  rw[h.1,h.2.1,gB h.2.2]
 | .fn f l,b,h=>by
  cases b<;>simp only[AH,Bool.false_eq_true,b6,decide_eq_true_eq] at h
  rw[h.1,gB h.2]
 | .ptr l o,b,h=>by
  cases b<;>simp only[AH,Bool.false_eq_true,b6,decide_eq_true_eq] at h
  rw[h.1,gB h.2]
 | .atom v,b,h=>by
  cases b<;>simp only[AH,Bool.false_eq_true] at h
  rw[L4 h]
theorem gB:∀{l m:List PV},oN l m=true->l=m
 |[],[],_=>rfl
 |a ::l,b ::m,h=>by simp only[oN,b6] at h;rw[pP h.1,gB h.2]
 |[],_ ::_,h=>by simp[oN] at h
 |_ ::_,[],h=>by simp[oN] at h
end
def mG{α:Type}(f : α -> α->Bool):List α->List α->Bool
 |[],[]=>true
 |a ::l,b ::m=>f a b&&mG f l m
 |_,_=>false
theorem eY{α:Type}{f : α -> α->Bool}(hf:∀a b,f a b=true->a=b):∀{l m:List α},mG f l m=true->l=m
 |[],[],_=>rfl
 |a ::l,b ::m,h=>by simp only[mG,b6] at h;rw[hf _ _ h.1,eY hf h.2]
 |[],_ ::_,h=>by simp[mG] at h
 |_ ::_,[],h=>by simp[mG] at h
def KG:CapV->CapV->Bool
 | .p x,.p y=>AH x y
 | .addr k z r o,.addr k' z' r' o'=>decide (k=k')&&(decide (z=z')&&(decide (r=r')&&decide (o=o')))
 |_,_=>false
theorem H9(a b:CapV)(h:KG a b=true):a=b:=by
 cases a<;>cases b<;>simp only[KG,Bool.false_eq_true,b6,decide_eq_true_eq] at h
 ·rw[pP h]
 ·rw[h.1,h.2.1,h.2.2.1,h.2.2.2]
def VQ:TV->TV->Bool
 | .p x,.p y=>AH x y
 | .ow n x l,.ow n' x' m=>decide (n=n')&&(decide (x=x')&&oN l m)
 |_,_=>false
theorem P8(a b:TV)(h:VQ a b=true):a=b:=by
 cases a<;>cases b<;>simp only[VQ,Bool.false_eq_true,b6,decide_eq_true_eq] at h
 ·rw[pP h]
 ·rw[h.1,h.2.1,gB h.2.2]
def WR:RfV->RfV->Bool
 | .p x,.p y=>AH x y
 | .addr k z r o,.addr k' z' r' o'=>decide (k=k')&&(decide (z=z')&&(decide (r=r')&&decide (o=o')))
 | .bs k z g l n,.bs k' z' g' l' n'=>decide (k=k')&&(decide (z=z')&&(decide (g=g')&&(decide (l=l')&&decide (n=n'))))
 | .mh k,.mh k'=>decide (k=k')
 |_,_=>false
theorem O8(a b:RfV)(h:WR a b=true):a=b:=by
 cases a<;>cases b<;>simp only[WR,Bool.false_eq_true,b6,decide_eq_true_eq] at h
 ·rw[pP h]
 ·rw[h.1,h.2.1,h.2.2.1,h.2.2.2]
 ·rw[h.1,h.2.1,h.2.2.1,h.2.2.2.1,h.2.2.2.2]
 ·rw[h]
def VU:Ob->Ob->Bool
 | .ch c l,.ch c' m=>decide (c=c')&&oN l m
 |_,_=>false
theorem LE(a b:Ob)(h:VU a b=true):a=b:=by
 cases a<;>cases b<;>simp only[VU,Bool.false_eq_true,b6,decide_eq_true_eq] at h
 rw[h.1,gB h.2]
def UT:DV->DV->Bool
 | .top,.top=>true
 | .p x,.p y=>AH x y
 | .ow n x l,.ow n' x' m=>decide (n=n')&&(decide (x=x')&&oN l m)
 | .tup l,.tup m=>mG VQ l m
 | .addr k z r o,.addr k' z' r' o'=>decide (k=k')&&(decide (z=z')&&(decide (r=r')&&decide (o=o')))
 | .bs k z g l n,.bs k' z' g' l' n'=>decide (k=k')&&(decide (z=z')&&(decide (g=g')&&(decide (l=l')&&decide (n=n'))))
 | .fn f l,.fn g m=>decide (f=g)&&mG KG l m
 | .mh k,.mh k'=>decide (k=k')
 | .agd l,.agd m=>mG WR l m
 | .ob x,.ob y=>VU x y
 |_,_=>false
theorem FO(a b:DV)(h:UT a b=true):a=b:=by
 cases a<;>cases b<;>simp only[UT,Bool.false_eq_true,b6,decide_eq_true_eq] at h
 ·rfl
 ·rw[pP h]
 ·rw[h.1,h.2.1,gB h.2.2]
 ·rw[eY P8 h]
 ·rw[h.1,h.2.1,h.2.2.1,h.2.2.2]
 ·rw[h.1,h.2.1,h.2.2.1,h.2.2.2.1,h.2.2.2.2]
 ·rw[h.1,eY H9 h.2]
 ·rw[h]
 ·rw[LE _ _ h]
 ·rw[eY O8 h]
def DP:Option Box->Option Box->Bool
 |none,none=>true
 |some x,some y=>decide (x.live=y.live)&&(decide (x.size=y.size)&&(decide (x.old=y.old)&&mG (mG UT) x.rows y.rows))
 |_,_=>false
theorem B9(a b:Option Box)(h:DP a b=true):a=b:=by
 cases a<;>cases b<;>simp only[DP,Bool.false_eq_true,b6,decide_eq_true_eq] at h
 ·rfl
 ·rename_i x y
  cases x;cases y
  simp only at h;rw[h.1,h.2.1,h.2.2.1,eY (fun _ _ h=>eY FO h) h.2.2.2]
def wE(E:Env)(f:FuncId)(gr:Bool)(xs:List DV)(b:List (Option Box))(K:DV->List (Option Box)->Option R):Option R :=
 iE b 4000 (gG b xs) [] fun ks=>B8 b (A6 ks) xs fun args=>u7 b (A6 ks) ks fun bs=>match E.callO f args bs with
  |some (bs',r)=>if gr||Nat.beq bs'.length ks.length then dM b.length fun L=>dM bs'.length fun m=>pR (y5 ks L m) ks bs' b fun b'=>A8 (y5 ks L m) r fun r'=>K r' b' else none
  |none=>none
theorem pH{E:Env}(hc:E.OK P){f:FuncId}{gr:Bool}{xs:List DV}{b:List (Option Box)}{K:DV->List (Option Box)->Option R}{r:R}(h:wE E f gr xs b K=some r):callO P f gr xs b fun v b'=>K v b'=some r:=by
 unfold wE at h;rw[dZ] at h;obtain⟨args,h1,h2⟩:=wV h;rw[CO] at h2;unfold callO oY;rw[h1];simp only
 split at h2
 ·rename_i bs' r' hE
  split at h2
  ·rename_i hg
   simp only[bN,sD,xH] at h2;refine⟨bs',r',hc.callO _ _ _ _ _ hE,?_,h2⟩;simp only[Bool.or_eq_true] at hg;rcases hg with hg|hg
   ·exact .inl hg
   ·exact .inr (Nat.eq_of_beq_eq_true hg)
  ·cases h2
 ·cases h2
def ET:List DV->(List DV->Option R)->Option R
 |[],K=>K []
 |x ::xs,K=>GU x fun x=>ET xs fun l=>K (x ::l)
theorem zZ(l:List DV)(K:List DV->Option R):ET l K=K l:=by
 induction l generalizing K with
 |nil=>rfl
 |cons x xs ih=>simp only[ET,nJ];rw[ih]
def iX:List (List DV)->(List (List DV)->Option R)->Option R
 |[],K=>K []
 |x ::xs,K=>ET x fun x=>iX xs fun l=>K (x ::l)
theorem gL(l:List (List DV))(K:List (List DV)->Option R):iX l K=K l:=by
 induction l generalizing K with
 |nil=>rfl
 |cons x xs ih=>simp only[iX,zZ];rw[ih]
def iS(E:Env)(κ:KO)(vs:List DV)(b:List (Option Box))(K:DV->List (Option Box)->Option R):Option R :=
 match κ with
 | .ldo _ _=>none
 | .callo f gr=>wE E f gr vs b K
 | .callr f=>wE E f false vs b fun v b'=>bif mG DP b' b then K v b else none
 | .callvo gr=>match vs with
  | .fn f caps ::xs=>wE E f gr (xs++kI caps) b K
  |_=>none
 | .bldo zero offs=>ET vs fun vs=>match lQ (gS zero) offs vs with
  |some cs=>eK cs fun cs=>K (.agd cs) b
  |none=>none
 | .eqp neq=>match vs with
  |[.addr _ _ _ _,.p (.atom (.pointer none))]=>K (.p (.bool neq)) b
  |[.p (.atom (.pointer none)),.p (.atom (.pointer none))]=>K (.p (.bool (!neq))) b
  |[.p (.ptr _ _),.p (.atom (.pointer none))]=>K (.p (.bool neq)) b
  |_=>none
 | .appd size bytes ag=>match vs with
  |[.p (.sl sz true []),y]=>match gC b size y with
   |some new=>aN (sz=size) (aN (new.length*bytes<=140737488355328) (aN (new.length<=140737488355328) (match new with
    |[]=>K (.p (.sl size true [])) b
    |_ ::_=>dM b.length fun L=>dM new.length fun n=>iX new fun rows=>K (.bs L size ag 0 n) (b++[some ⟨true,size,rows,false⟩]))))
   |none=>none
  |[.bs k sz _ lo n,y]=>match gC b size y with
   |some new=>match bB b k with
    |some bx=>aN (bx.live=true) (aN (sz=size) (aN (bx.size=size) (aN (lo=0) (aN (n=bx.rows.length) (aN ((bx.rows.length+new.length)*bytes<=140737488355328) (aN (bx.rows.length+new.length<=140737488355328)
      (dM b.length fun L=>dM (bx.rows.length+new.length) fun n=>iX (aY bx.rows++new) fun rows=>K (.bs L size ag 0 n) (aJ b k none++[some ⟨true,size,rows,false⟩])))))))) 
    |none=>none
   |none=>none
  |_=>none
 | .bsld size n ag=>aN (size=1) (aN (vs.length=n) (aN (n≠0) (aN ((vs.all DV.isRef)=true) (aN ((vs.all (I3 b.length))=true) (dM b.length fun L=>iX (vs.map fun x=>[x]) fun rows=>K (.bs L 1 ag 0 n) (b++[some ⟨true,1,rows,false⟩]))))))
 | .slx size=>match vs with
  |[.bs k sz ag lo n,.p (.int _ h)]=>aN (sz=size) (aN (lo=0) (aN (0<=h) (aN (h<=n) (match bB b k with
   |some bx=>aN (sz=bx.size) (aN (bx.live=true) (aN (h<=bx.rows.length) (oM (some { bx with rows:=bx.rows.take h.toNat }) fun bx=>dM h.toNat fun n=>K (.bs k sz ag 0 n) (aJ b k bx))))
   |none=>none))))
  |[.p (.sl sz nl rows),.p (.int _ h)]=>aN (sz=size\/rows.isEmpty=true) (aN (0<=h) (aN (h<=rows.length) (K (.p (.sl sz nl (rows.take h.toNat))) b)))
  |_=>none
 | .lookx q zero ok=>match vs with
  |[.mh k,.p x]=>aN (c7 q x=true) (match d8 b k with
   |some bx=>match gW q x bx.rows with
    |some (some d)=>if ok then match d with
      | .p v=>K (.tup [.p v,.p (.bool true)]) b
      |_=>none
     else K d.copy b
    |some none=>K (if ok then .tup [.p zero,.p (.bool false)] else .p zero) b
    |none=>none
   |none=>none)
  |_=>none
 | .mupx q=>match vs with
  |[.mh k,.p x,d]=>aN (c7 q x=true) (GU d fun d=>aN ((d.isRef||d.isP)=true) (match d8 b k with
   |some bx=>match iW q x d bx.rows with
    |some rows=>iX rows fun rows=>K .top (aJ b k (some { bx with rows:=rows }))
    |none=>none
   |none=>none))
  |_=>none
 | .mdel q=>match vs with
  |[.mh k,.p x]=>aN (c7 q x=true) (match d8 b k with
   |some bx=>match kQ q x bx.rows with
    |some rows=>iX (aY rows) fun rows=>K .top (aJ b k (some { bx with rows:=rows }))
    |none=>none
   |none=>none)
  |_=>none
 | .mpe _=>none
 | .ents=>none
 | .lda _=>none
 | .mlen=>match vs with
  |[.mh k]=>match d8 b k with
   |some bx=>K (.p (.int .i64 bx.rows.length)) b
   |none=>none
  |_=>none
theorem F6{E:Env}(hc:E.OK P){κ:KO}{vs:List DV}{b:List (Option Box)}{K:DV->List (Option Box)->Option R}{r:R}
  (h:iS E κ vs b K=some r):b8 P κ vs b fun v b'=>K v b'=some r:=by
 cases κ with
 |ldo j ag=>cases h
 |callo f gr=>exact pH hc h
 |callr f=>
  show callO P f false vs b fun v b'=>b'=b/\K v b=some r
  refine cU (fun v b' hb=>?_) (pH hc h)
  cases he:mG DP b' b with
  |false=>rw[he] at hb;cases hb
  |true=>rw[he] at hb;exact⟨eY B9 he,hb⟩
 |callvo gr=>
  simp only[iS] at h;split at h
  ·exact pH hc h
  ·cases h
 |bldo zero offs=>
  simp only[iS,zZ] at h;simp only[b8]
  split at h
  ·rename_i hf;rw[hf];rw[eJ] at h;exact h
  ·cases h
 |eqp neq=>
  simp only[iS] at h;split at h
  ·exact h
  ·exact h
  ·exact h
  ·cases h
 |appd size bytes ag=>
  simp only[iS] at h;split at h
  ·split at h
   ·rename_i new hn
    obtain⟨h1,h⟩:=aD h;obtain⟨h2,h⟩:=aD h;obtain⟨h3,h⟩:=aD h;simp only[b8,hn];have h3':=Nat.le_trans h3 (by decide:140737488355328<=maxLen)
    split at h
    ·exact⟨h1,h2,h3',fun _=>h,fun e=>absurd rfl e⟩
    ·simp only[bN,gL] at h
     exact⟨h1,h2,h3',fun e=>(by cases e),fun _=>h⟩
   ·cases h
  ·split at h
   ·rename_i new hn
    split at h
    ·rename_i bx hb
     obtain⟨h1,h⟩:=aD h;obtain⟨h2,h⟩:=aD h;obtain⟨h3,h⟩:=aD h;obtain⟨h4,h⟩:=aD h;obtain⟨h5,h⟩:=aD h;obtain⟨h6,h⟩:=aD h;obtain⟨h7,h⟩:=aD h;simp only[bN,gL] at h;simp only[b8,hn,hb];exact⟨h1,h2,h3,h4,h5,h6,Nat.le_trans h7 (by decide:140737488355328<=maxLen),h⟩
    ·cases h
   ·cases h
  ·cases h
 |bsld size n ag=>
  simp only[iS] at h;obtain⟨h1,h⟩:=aD h;obtain⟨h2,h⟩:=aD h;obtain⟨h3,h⟩:=aD h;obtain⟨h4,h⟩:=aD h;obtain⟨h5,h⟩:=aD h;simp only[bN,gL] at h;simp only[b8];exact⟨h1,h2,h3,h4,h5,h⟩
 |slx size=>
  simp only[iS] at h;split at h
  ·obtain⟨h1,h⟩:=aD h;obtain⟨h2,h⟩:=aD h;obtain⟨h3,h⟩:=aD h;obtain⟨h4,h⟩:=aD h
   split at h
   ·rename_i bx hb
    obtain⟨h5,h⟩:=aD h;obtain⟨h6,h⟩:=aD h;obtain⟨h7,h⟩:=aD h;simp only[bN,eC] at h;simp only[b8,hb];exact⟨h1,h2,h3,h4,h5,h6,h7,h⟩
   ·cases h
  ·obtain⟨h1,h⟩:=aD h;obtain⟨h2,h⟩:=aD h;obtain⟨h3,h⟩:=aD h
   simp only[b8];exact⟨by simpa using h1,h2,h3,h⟩
  ·cases h
 |lookx q zero ok=>
  simp only[iS] at h;split at h
  ·obtain⟨h1,h⟩:=aD h
   simp only[b8];refine⟨h1,?_⟩
   split at h
   ·rename_i hb;simp only[hb]
    split at h
    ·rename_i hf;simp only[hf]
     split at h
     ·rename_i ho
      rw[if_pos ho]
      split at h
      ·exact⟨_,rfl,h⟩
      ·cases h
     ·rename_i ho;rw[if_neg ho];exact h
    ·rename_i hf;simp only[hf];exact h
    ·cases h
   ·cases h
  ·cases h
 |mupx q=>
  simp only[iS] at h;split at h
  ·obtain⟨h1,h⟩:=aD h
   rw[nJ] at h;obtain⟨h2,h⟩:=aD h;simp only[b8];refine⟨h1,h2,?_⟩
   split at h
   ·rename_i hb;simp only[hb]
    split at h
    ·rename_i hf;simp only[hf];rw[gL] at h;exact h
    ·cases h
   ·cases h
  ·cases h
 |mdel q=>
  simp only[iS] at h;split at h
  ·obtain⟨h1,h⟩:=aD h
   simp only[b8];refine⟨h1,?_⟩
   split at h
   ·rename_i hb;simp only[hb]
    split at h
    ·rename_i hf;simp only[hf];rw[gL] at h;exact h
    ·cases h
   ·cases h
  ·cases h
 |mpe q=>cases h
 |ents=>cases h
 |lda n=>cases h
 |mlen=>
  simp only[iS] at h;split at h
  ·simp only[b8]
   split at h
   ·rename_i hb;simp only[hb];exact h
   ·cases h
  ·cases h
def bP(E:Env)(κ:Kd)(vs:List DV)(b:List (Option Box))(K:DV->List (Option Box)->Option R):Option R :=
 match κ with
 | .mov take=>match vs with
  |[x]=>K (if take then x else x.copy) b
  |_=>none
 | .pick=>match vs with
  |[.p (.bool c),x,y]=>if c then K x.copy b else K y.copy b
  |_=>none
 | .box k size=>match vs with
  |[x]=>match aS x with
   |some cs=>aN (cs.length=size) (aN (x.ment k=false) (oM (some ⟨true,size,[gH cs],false⟩) fun bx=>K (.addr k size 0 0) (aJ b k bx)))
   |none=>none
  |_=>none
 | .alloc k size zero=>match vs with
  |[]=>aN (zero.length=size) (K (.addr k size 0 0) (aJ b k (some ⟨true,size,[zero],false⟩)))
  |_=>none
 | .build zero offs=>match bU vs with
  |some ps=>match mM zero offs ps with
   |some cs=>K (.p (.agg cs)) b
   |none=>none
  |none=>none
 | .bsl size n=>match bU vs with
  |some rows=>aN (rows.length=n) (aN (∀r,r∈rows->(aK r).length=size) (K (.ow size false rows) b))
  |none=>none
 | .load n isAgg take=>match vs with
  |[.addr k sz r off]=>match bB b k with
   |some bx=>aN (sz=bx.size) (match bx.rows[r]? with
    |some row=>aN (off+n<=row.length) (
     if isAgg then match bU (dV row off n) with
      |some cs=>K (.p (.agg cs)) b
      |none=>none
     else match row[off]? with
      |some d=>if take then oM (some { bx with rows:=aJ bx.rows r (aJ row off d.copy) }) fun bx=>K d (aJ b k bx) else K d.copy b
      |none=>none)
    |none=>none)
   |none=>none
  |[.p (.ptr cells off)]=>vT cells off n isAgg fun x=>K (.p x) b
  |_=>none
 | .loadp n isAgg=>match vs with
  |[.p (.ptr cells off)]=>vT cells off n isAgg fun x=>K (.p x) b
  |_=>none
 | .store n=>match vs with
  |[.addr k sz r off,v]=>match bB b k,aS v with
   |some bx,some cs=>aN (sz=bx.size) (aN (bx.live=true) (aN (cs.length=n) (match bx.rows[r]? with
    |some row=>aN (off+n<=row.length) (oM (some { bx with rows:=aJ bx.rows r (gF row off cs) }) fun bx=>K .top (aJ b k bx))
    |none=>none)))
   |_,_=>none
  |_=>none
 | .bin op=>match vs with
  |[.p x,.p y]=>N8 op x y fun z=>K (.p z) b
  |_=>none
 | .eqnil neq=>match vs with
  |[.p (.sl _ n _),.ow _ true []]=>K (.p (.bool (if neq then !n else n))) b
  |[.ow _ n _,.ow _ true []]=>K (.p (.bool (if neq then !n else n))) b
  |_=>none
 | .un op=>match vs with
  |[.p (.bool x)]=>match op with
   | .not=>K (.p (.bool !x)) b
   |_=>none
  |[.p (.int k x)]=>match op with
   | .neg=>K (.p (.int k (lC k (0-x)))) b
   |_=>none
  |_=>none
 | .conv k=>match vs with
  |[.p (.int _ n)]=>K (.p (.int k (lC k n))) b
  |_=>none
 | .fad off=>match vs with
  |[.addr k size r o]=>K (.addr k size r (o+off)) b
  |[.p (.ptr cells o)]=>K (.p (.ptr cells (o+off))) b
  |_=>none
 | .fld off n isAgg=>match vs with
  |[.p (.agg cs)]=>vT cs off n isAgg fun x=>K (.p x) b
  |_=>none
 | .iad size=>match vs with
  |[.p (.sl sz _ rows),.p (.int _ i)]=>aN (sz=size) (aN (0<=i) (match rows[i.toNat]? with
   |some row=>K (.p (.ptr (aK row) 0)) b
   |none=>none))
  |[.ow sz _ rows,.p (.int _ i)]=>aN (sz=size) (aN (0<=i) (match rows[i.toNat]? with
   |some row=>K (.p (.ptr (aK row) 0)) b
   |none=>none))
  |[.bs k sz _ lo n,.p (.int _ i)]=>aN (sz=size) (aN (0<=i) (aN (i<n) (K (.addr k sz (lo+i.toNat) 0) b)))
  |_=>none
 | .sidx=>match vs with
  |[.p (.str s),.p (.int _ i)]=>aN (0<=i) (match s.data.toList[i.toNat]? with
   |some c=>K (.p (.int .u8 c.toNat)) b
   |none=>none)
  |_=>none
 | .len=>match vs with
  |[x]=>match eO x with
   |some n=>K (.p (.int .i64 n)) b
   |none=>none
  |_=>none
 | .lenD=>match vs with
  |[x]=>match eO x with
   |some n=>K (.p (.int .i64 n)) b
   |none=>none
  |_=>none
 | .slen=>match vs with
  |[.p (.str z)]=>K (.p (.int .i64 z.size)) b
  |_=>none
 | .app size bytes=>match vs with
  |[.ow sz nl rows,y]=>match y.frz b with
   |some (.sl sz2 _ rows2)=>aN (sz=size\/(nl=true/\rows.isEmpty=true)) (aN (sz2=size\/rows2.isEmpty=true) (aN ((rows.length+rows2.length)*bytes<=140737488355328) (aN (rows.length+rows2.length<=140737488355328)
     (K (.ow size (nl&&rows2.isEmpty) (rows++rows2)) b))))
   |_=>none
  |[.p (.sl sz true rows),y]=>aN (rows.isEmpty=true) (match y.frz b with
   |some (.sl sz2 _ rows2)=>aN (sz=size) (aN (sz2=size\/rows2.isEmpty=true) (aN (rows2.length*bytes<=140737488355328) (aN (rows2.length<=140737488355328)
     (K (.ow size rows2.isEmpty rows2) b))))
   |_=>none)
  |_=>none
 | .ext j=>match vs with
  |[.tup ds]=>match ds[j]? with
   |some d=>K d.dv b
   |none=>none
  |_=>none
 | .extp j=>match vs with
  |[.tup ds]=>match ds[j]? with
   |some d=>K d.dv.copy b
   |none=>none
  |_=>none
 | .call f=>match jA b vs with
  |some args=>match E.call f args with
   |some r=>K r b
   |none=>none
  |none=>none
 | .callv=>match vs with
  |fx ::xs=>match fx.frz b,jA b xs with
   |some (.fn f caps),some args=>match E.call f (args++caps) with
    |some r=>K r b
    |none=>none
   |_,_=>none
  |_=>none
 | .mkfn f=>match jA b vs with
  |some caps=>K (.p (.fn f caps)) b
  |none=>none
 | .mksl k size bytes isAgg zero=>match vs with
  |[.p (.int _ n),.p (.int _ m)]=>aN (n=m) (aN (0<=n) (aN (n*bytes<=140737488355328) (aN (n<=140737488355328) (aN (zero.length=size)
    (oM (some ⟨true,size,List.replicate n.toNat zero,false⟩) fun bx=>K (.bs k size isAgg 0 n.toNat) (aJ b k bx))))))
  |_=>none
 | .slc size lo hi=>match vs with
  | .p (.sl sz nl rows) ::ys=>aN (sz=size\/rows.isEmpty=true) (match lo,hi,ys with
   |true,true,[.p (.int _ l),.p (.int _ h)]=>aN (0<=l) (aN (l<=h) (aN (h<=rows.length) (K (.p (.sl sz nl ((rows.take h.toNat).drop l.toNat))) b)))
   |true,false,[.p (.int _ l)]=>aN (0<=l) (aN (l<=rows.length) (K (.p (.sl sz nl (rows.drop l.toNat))) b))
   |false,true,[.p (.int _ h)]=>aN (0<=h) (aN (h<=rows.length) (K (.p (.sl sz nl (rows.take h.toNat))) b))
   |_,_,_=>none)
  |_=>none
 | .nilchk=>match vs with
  |[.addr k s r o]=>K (.addr k s r o) b
  |[.p (.ptr c o)]=>K (.p (.ptr c o)) b
  |[.p (.fn f c)]=>K (.p (.fn f c)) b
  |_=>none
 | .mn=>match vs with
  |[.p (.int k x),.p (.int k' y)]=>aN (k=k') (K (.p (.int k (if y<x then y else x))) b)
  |_=>none
 | .mx=>match vs with
  |[.p (.int k x),.p (.int k' y)]=>aN (k=k') (K (.p (.int k (if y>x then y else x))) b)
  |_=>none
 | .ssl lo hi=>match vs with
  | .p (.str z) ::ys=>match lo,hi,ys with
   |true,true,[.p (.int _ l),.p (.int _ h)]=>aN (0<=l) (aN (l<=h) (aN (h<=z.size) (K (.p (.str (z.extract l.toNat h.toNat))) b)))
   |true,false,[.p (.int _ l)]=>aN (0<=l) (aN (l<=z.size) (K (.p (.str (z.extract l.toNat z.size))) b))
   |false,true,[.p (.int _ h)]=>aN (0<=h) (aN (h<=z.size) (K (.p (.str (z.extract 0 h.toNat))) b))
   |_,_,_=>none
  |_=>none
 | .slb k size=>match vs with
  |[.bs k' sz ag lo n,.p (.int _ h)]=>aN (k'=k) (aN (sz=size) (aN (lo=0) (aN (0<=h) (aN (h<=n) (match bB b k with
   |some bx=>aN (h<=bx.rows.length) (oM (some { bx with rows:=bx.rows.take h.toNat }) fun bx=>K (.bs k sz ag 0 h.toNat) (aJ b k bx))
   |none=>none)))))
  |_=>none
 | .callm f k=>match bB b k,pA k b vs with
  |some bx,some args=>aN (bx.live=true) (aN (bS bx.rows=true) (match E.callM f bx.size args bx.rows with
   |some (rows',r)=>oM (some { bx with rows:=rows' }) fun bx=>K r (aJ b k bx)
   |none=>none))
  |_,_=>none
 | .stk=>none
 | .eqat neq=>match vs with
  |[.p (.atom .nilIface),.p (.atom .nilIface)]=>K (.p (.bool (!neq))) b
  |_=>none
 | .eqs n neq=>match vs with
  |[.p (.agg xs),.p (.agg ys)]=>aN (xs.length=n) (match z6 xs ys with
   |some r=>K (.p (.bool (if neq then !r else r))) b
   |none=>none)
  |_=>none
 | .eqb neq=>match vs with
  |[.p (.bool x),.p (.bool y)]=>K (.p (.bool (if neq then !(x ==y) else x ==y))) b
  |_=>none
 | .mkz size bytes row=>match vs with
  |[.p (.int _ n),.p (.int _ m)]=>aN (n=m) (aN (0<=n) (aN (n*bytes<=140737488355328) (aN (n<=140737488355328) (aN ((aK row).length=size)
    (K (.ow size false (List.replicate n.toNat row)) b)))))
  |_=>none
 | .s2b=>match vs with
  |[.p (.str z)]=>aN (z.size<=140737488355328) (K (.p (.sl 1 false (z.data.toList.map fun c=>.int .u8 c.toNat))) b)
  |_=>none
 | .mkmap k=>match vs with
  |[]=>K (.mh k) (aJ b k (some ⟨true,0,[],false⟩))
  |_=>none
 | .look q zero=>match vs with
  |[.mh k,.p (.int q' x)]=>aN (q'=q) (match d8 b k with
   |some bx=>match kK q x bx.rows with
    |some (some v)=>K (.p v) b
    |some none=>K (.p zero) b
    |none=>none
   |none=>none)
  |_=>none
 | .mupd q=>match vs with
  |[.mh k,.p (.int q' x),.p v]=>aN (q'=q) (aN (v.one=true) (match d8 b k with
   |some bx=>match rU q x v bx.rows with
    |some rows=>oM (some { bx with rows:=rows }) fun bx=>K .top (aJ b k bx)
    |none=>none
   |none=>none))
  |_=>none
 | .at _ _=>none
 | .pl _=>none
 | .ob κ=>iS E κ vs b K
theorem hU{α:Type}{l:List α}:l.isEmpty=true↔l=[]:=by cases l<;>simp
theorem gO:140737488355328<=maxLen:=by decide
theorem tS{E:Env}(hc:E.OK P){κ:Kd}{vs:List DV}{b:List (Option Box)}{K:DV->List (Option Box)->Option R}{r:R}
  (h:bP E κ vs b K=some r):aF P κ vs b fun v b'=>K v b'=some r:=by
 cases κ with
 |mov take=>
  simp only[bP] at h;split at h<;>first|(cases h;done)|exact h
 |pick=>
  simp only[bP] at h;split at h
  ·split at h
   ·rename_i hc;exact⟨fun _=>h,fun e=>by rw[hc] at e;cases e⟩
   ·rename_i hc;exact⟨fun e=>absurd e hc,fun _=>h⟩
  ·cases h
 |box k size=>
  simp only[bP] at h;split at h
  ·simp only[aF]
   split at h
   ·rename_i heq;simp only[heq];obtain⟨h1,h⟩:=aD h;obtain⟨h2,h⟩:=aD h;rw[eC] at h;exact⟨h1,h2,h⟩
   ·cases h
  ·cases h
 |alloc k size zero=>
  simp only[bP] at h;split at h
  ·exact aD h
  ·cases h
 |build zero offs=>
  simp only[bP] at h;simp only[aF];split at h
  ·rename_i heq;simp only[heq]
   split at h
   ·rename_i heq;simp only[heq];exact h
   ·cases h
  ·cases h
 |bsl size n=>
  simp only[bP] at h;simp only[aF];split at h
  ·rename_i heq;simp only[heq];obtain⟨h1,h⟩:=aD h;obtain⟨h2,h⟩:=aD h;exact⟨h1,h2,h⟩
  ·cases h
 |load n isAgg take=>
  simp only[bP] at h;split at h
  ·simp only[aF];split at h
   ·rename_i heq;simp only[heq]
    obtain⟨h1,h⟩:=aD h
    split at h
    ·rename_i hrow
     obtain⟨h2,h⟩:=aD h;refine⟨h1,_,hrow,h2,?_⟩
     split at h
     ·rename_i hi
      rw[if_pos hi]
      split at h
      ·rename_i heq;simp only[heq];exact h
      ·cases h
     ·rename_i hi
      rw[if_neg hi]
      split at h
      ·rename_i hd
       refine⟨_,hd,?_⟩
       split at h
       ·rename_i ht;rw[eC] at h;rw[if_pos ht,if_pos ht];exact h
       ·rename_i ht;rw[if_neg ht,if_neg ht];exact h
      ·cases h
    ·cases h
   ·cases h
  ·exact r9 h
  ·cases h
 |loadp n isAgg=>
  simp only[bP] at h;split at h
  ·exact r9 h
  ·cases h
 |store n=>
  simp only[bP] at h;split at h
  ·simp only[aF];split at h
   ·rename_i heq1 heq2;simp only[heq1,heq2]
    obtain⟨h1,h⟩:=aD h;obtain⟨h2,h⟩:=aD h;obtain⟨h3,h⟩:=aD h
    split at h
    ·rename_i hrow
     obtain⟨h4,h⟩:=aD h;rw[eC] at h;exact⟨h1,h2,h3,_,hrow,h4,h⟩
    ·cases h
   ·cases h
  ·cases h
 |bin op=>
  simp only[bP] at h;split at h
  ·exact HU h
  ·cases h
 |eqnil neq=>
  simp only[bP] at h;split at h
  ·exact h
  ·exact h
  ·cases h
 |un op=>
  simp only[bP] at h;split at h
  ·cases op<;>simp only[aF]<;>first|exact h|(cases h;done)
  ·cases op<;>simp only[aF,rD] at h ⊢<;>first|exact h|(cases h;done)
  ·cases h
 |conv k=>
  simp only[bP] at h;split at h
  ·rw[rD] at h;exact h
  ·cases h
 |fad off=>
  simp only[bP] at h;split at h<;>first|exact h|(cases h;done)
 |fld off n isAgg=>
  simp only[bP] at h;split at h
  ·exact r9 h
  ·cases h
 |iad size=>
  simp only[bP] at h;split at h
  ·obtain⟨h1,h⟩:=aD h;obtain⟨h2,h⟩:=aD h
   split at h
   ·exact⟨h1,h2,_,by assumption,h⟩
   ·cases h
  ·obtain⟨h1,h⟩:=aD h;obtain⟨h2,h⟩:=aD h
   split at h
   ·exact⟨h1,h2,_,by assumption,h⟩
   ·cases h
  ·obtain⟨h1,h⟩:=aD h;obtain⟨h2,h⟩:=aD h;obtain⟨h3,h⟩:=aD h
   exact⟨h1,h2,h3,h⟩
  ·cases h
 |sidx=>
  simp only[bP] at h;split at h
  ·obtain⟨h1,h⟩:=aD h
   split at h
   ·exact⟨h1,_,by assumption,h⟩
   ·cases h
  ·cases h
 |len=>
  simp only[bP] at h;split at h
  ·simp only[aF];split at h
   ·rename_i heq;simp only[heq];exact fun _=>h
   ·cases h
  ·cases h
 |lenD=>
  simp only[bP] at h;split at h
  ·simp only[aF];split at h
   ·rename_i heq;simp only[heq];exact h
   ·cases h
  ·cases h
 |slen=>
  simp only[bP] at h;split at h<;>first|exact h|(cases h;done)
 |app size bytes=>
  simp only[bP] at h;split at h
  ·simp only[aF];split at h
   ·rename_i heq;simp only[heq]
    simp only[hU] at h;obtain⟨h1,h⟩:=aD h;obtain⟨h2,h⟩:=aD h;obtain⟨h3,h⟩:=aD h;obtain⟨h4,h⟩:=aD h;exact⟨h1,h2,h3,Nat.le_trans h4 gO,h⟩
   ·cases h
  ·replace h:=aD h
   obtain⟨h0,h⟩:=h;rw[List.isEmpty_iff] at h0;subst h0;simp only[aF];split at h
   ·rename_i heq;simp only[heq]
    simp only[hU] at h;obtain⟨h1,h⟩:=aD h;obtain⟨h2,h⟩:=aD h;obtain⟨h3,h⟩:=aD h;obtain⟨h4,h⟩:=aD h;exact⟨h1,h2,h3,Nat.le_trans h4 gO,h⟩
   ·cases h
  ·cases h
 |ext j=>
  simp only[bP] at h;split at h
  ·simp only[aF];split at h<;>first|(cases h;done)|(rename_i heq;simp only[heq];exact h)
  ·cases h
 |extp j=>
  simp only[bP] at h;split at h
  ·simp only[aF];split at h<;>first|(cases h;done)|(rename_i heq;simp only[heq];exact h)
  ·cases h
 |call f=>
  simp only[bP] at h;simp only[aF];split at h
  ·rename_i heq;simp only[heq]
   split at h
   ·rename_i hcall;exact⟨_,hc.call _ _ _ hcall,h⟩
   ·cases h
  ·cases h
 |callv=>
  simp only[bP] at h;split at h
  ·simp only[aF];split at h
   ·rename_i heq1 heq2;simp only[heq1,heq2]
    split at h
    ·rename_i hcall;exact⟨_,hc.call _ _ _ hcall,h⟩
    ·cases h
   ·cases h
  ·cases h
 |mkfn f=>
  simp only[bP] at h;simp only[aF];split at h<;>first|(cases h;done)|(rename_i heq;simp only[heq];exact h)
 |mksl k size bytes isAgg zero=>
  simp only[bP] at h;split at h
  ·obtain⟨h1,h⟩:=aD h;obtain⟨h2,h⟩:=aD h;obtain⟨h3,h⟩:=aD h;obtain⟨h4,h⟩:=aD h;obtain⟨h5,h⟩:=aD h
   rw[eC] at h;have:=gO;exact⟨h1,h2,h3,by omega,h5,h⟩
  ·cases h
 |slc size lo hi=>
  simp only[bP] at h;split at h
  ·simp only[hU] at h
   obtain⟨h1,h⟩:=aD h;refine⟨h1,?_⟩
   split at h
   ·obtain⟨h1,h⟩:=aD h;obtain⟨h2,h⟩:=aD h;obtain⟨h3,h⟩:=aD h;exact⟨h1,h2,h3,h⟩
   ·obtain⟨h1,h⟩:=aD h;obtain⟨h2,h⟩:=aD h;exact⟨h1,h2,h⟩
   ·obtain⟨h1,h⟩:=aD h;obtain⟨h2,h⟩:=aD h;exact⟨h1,h2,h⟩
   ·cases h
  ·cases h
 |nilchk=>
  simp only[bP] at h;split at h<;>first|exact h|(cases h;done)
 |mn=>
  simp only[bP] at h;split at h
  ·exact aD h
  ·cases h
 |mx=>
  simp only[bP] at h;split at h
  ·exact aD h
  ·cases h
 |ssl lo hi=>
  simp only[bP] at h;split at h
  ·split at h
   ·obtain⟨h1,h⟩:=aD h;obtain⟨h2,h⟩:=aD h;obtain⟨h3,h⟩:=aD h;exact⟨h1,h2,h3,h⟩
   ·obtain⟨h1,h⟩:=aD h;obtain⟨h2,h⟩:=aD h;exact⟨h1,h2,h⟩
   ·obtain⟨h1,h⟩:=aD h;obtain⟨h2,h⟩:=aD h;exact⟨h1,h2,h⟩
   ·cases h
  ·cases h
 |slb k size=>
  simp only[bP] at h;split at h
  ·obtain⟨h1,h⟩:=aD h;obtain⟨h2,h⟩:=aD h;obtain⟨h3,h⟩:=aD h;obtain⟨h4,h⟩:=aD h;obtain⟨h5,h⟩:=aD h
   simp only[aF];refine⟨h1,h2,h3,h4,h5,?_⟩
   split at h
   ·rename_i heq;simp only[heq]
    obtain⟨h6,h⟩:=aD h;rw[eC] at h;exact⟨h6,h⟩
   ·cases h
  ·cases h
 |callm f k=>
  simp only[bP] at h;simp only[aF];split at h
  ·rename_i heq1 heq2;simp only[heq1,heq2]
   obtain⟨h1,h⟩:=aD h;obtain⟨h2,h⟩:=aD h;refine⟨h1,h2,?_⟩
   split at h
   ·rename_i hcall
    rw[eC] at h;exact⟨_,_,hc.callM _ _ _ _ _ _ hcall,h⟩
   ·cases h
  ·cases h
 |stk=>simp[bP] at h
 |eqat neq=>
  simp only[bP] at h;split at h
  ·exact h
  ·cases h
 |eqs n neq=>
  simp only[bP] at h;split at h
  ·obtain⟨h1,h⟩:=aD h
   simp only[aF];refine⟨h1,?_⟩
   split at h
   ·rename_i heq;simp only[heq];exact h
   ·cases h
  ·cases h
 |eqb neq=>
  simp only[bP] at h;split at h
  ·exact h
  ·cases h
 |mkz size bytes row=>
  simp only[bP] at h;split at h
  ·obtain⟨h1,h⟩:=aD h;obtain⟨h2,h⟩:=aD h;obtain⟨h3,h⟩:=aD h;obtain⟨h4,h⟩:=aD h;obtain⟨h5,h⟩:=aD h
   have:=gO;exact⟨h1,h2,h3,by omega,h5,h⟩
  ·cases h
 |s2b=>
  simp only[bP] at h;split at h
  ·obtain⟨h1,h⟩:=aD h;exact⟨Nat.le_trans h1 gO,h⟩
  ·cases h
 |mkmap k=>
  simp only[bP] at h;split at h
  ·exact h
  ·cases h
 |look q zero=>
  simp only[bP] at h;split at h
  ·obtain⟨h1,h⟩:=aD h
   simp only[aF];refine⟨h1,?_⟩
   split at h
   ·rename_i heq;simp only[heq]
    split at h
    ·rename_i heq;simp only[heq];exact h
    ·rename_i heq;simp only[heq];exact h
    ·cases h
   ·cases h
  ·cases h
 |mupd q=>
  simp only[bP] at h;split at h
  ·obtain⟨h1,h⟩:=aD h;obtain⟨h2,h⟩:=aD h
   simp only[aF];refine⟨h1,h2,?_⟩
   split at h
   ·rename_i heq;simp only[heq]
    split at h
    ·rename_i heq;simp only[heq];rw[eC] at h;exact h
    ·cases h
   ·cases h
  ·cases h
 | «at» k κ=>simp[bP] at h
 |pl κ=>simp[bP] at h
 |ob κ=>exact F6 hc h
def GB(E:Env)(κ:Kd)(vs:List DV)(b:List (Option Box))(K:DV->List (Option Box)->Option R):Option R :=
 match κ with
 | .at k κ'=>match vs with
  | .addr k' _ _ _ ::_=>aN (k'=k) (bP E κ' vs b K)
  |_=>none
 | .pl κ'=>aN ((bU vs).isSome=true) (bP E κ' vs b K)
 | κ'=>bP E κ' vs b K
theorem D8{E:Env}(hc:E.OK P){κ:Kd}{vs:List DV}{b:List (Option Box)}{K:DV->List (Option Box)->Option R}{r:R}
  (h:GB E κ vs b K=some r):bV P κ vs b fun v b'=>K v b'=some r:=by
 unfold GB at h
 split at h
 ·simp only[bV]
  split at h
  ·obtain⟨h1,h⟩:=aD h
   exact⟨h1,tS hc h⟩
  ·cases h
 ·obtain⟨h1,h⟩:=aD h
  exact⟨h1,tS hc h⟩
 ·rename_i h1 h2
  unfold bV
  split
  ·exact(h1 _ _ rfl).elim
  ·exact(h2 _ rfl).elim
  ·exact tS hc h
def GM(t:List DV)(d:Option Nat)(v:DV)(K:List DV->Option R):Option R :=
 match d with
 |some i=>GU v fun v=>nO t i v K
 |none=>K t
theorem vM(t:List DV)(d:Option Nat)(v:DV)(K:List DV->Option R):GM t d v K=K (aP t d v):=by
 cases d with
 |none=>rfl
 |some i=>simp only[GM,aP,nJ,i5]
def KE(κ:Kd)(xs:List O)(t:List DV)(K:List DV->Option R):Option R :=
 match κ with
 | .mov true | .app _ _ | .store _ | .ext _=>eK (dW κ xs t) K
 |_=>K (dW κ xs t)
theorem IW(κ:Kd)(xs:List O)(t:List DV)(K:List DV->Option R):KE κ xs t K=K (dW κ xs t):=by
 unfold KE;split<;>simp only[eJ]
def V2(E:Env)(i:Ins)(s:St)(K:St->Option R):Option R :=
 aN (aL i s=true) (GB E i.k (i.xs.map (O.val s.t)) s.b fun v b'=>KE i.k.core i.xs s.t fun t=>GM t i.d v fun t=>eK b' fun b'=>K ⟨t,b'⟩)
theorem F5{E:Env}(hc:E.OK P){i:Ins}{s:St}{K:St->Option R}{r:R}(h:V2 E i s K=some r):kU P i s fun s'=>K s'=some r:=by
 unfold V2 at h;simp only[IW,vM,eJ] at h;obtain⟨h1,h⟩:=aD h;exact⟨(tG i s).mp h1,D8 hc h⟩
def G5(E:Env)(i:Ins)(s:St)(K:St->Option R):Option R :=
 match i.g with
 |none=>V2 E i s K
 |some (j,want)=>match aW s.t j with
  | .p (.bool c)=>if c=want then nO s.t j (.p (.bool want)) fun t=>V2 E i ⟨t,s.b⟩ K else nO s.t j (.p (.bool (!want))) fun t=>GM t i.d (.tup []) fun t=>K ⟨t,s.b⟩
  | .tup []=>GM s.t i.d (.tup []) fun t=>K ⟨t,s.b⟩
  |_=>none
theorem AD{E:Env}(hc:E.OK P){i:Ins}{s:St}{K:St->Option R}{r:R}(h:G5 E i s K=some r):b5 P i s fun s'=>K s'=some r:=by
 unfold G5 at h;unfold b5
 split at h
 ·rename_i hg;rw[hg];exact F5 hc h
 ·rename_i j want hg
  rw[hg];simp only
  split at h
  ·rename_i c ht
   rw[ht];simp only[i5,vM] at h ⊢
   split at h
   ·rename_i e;exact⟨fun _=>F5 hc h,fun e'=>by subst e;cases c<;>cases e'⟩
   ·rename_i e;exact⟨fun e'=>absurd e' e,fun _=>h⟩
  ·rename_i ht
   rw[ht];simp only[vM] at h ⊢;exact h
  ·cases h
theorem iB{is:List Ins}:∀{s:St} {A B:St->Prop},(∀s,A s->B s)->bI P is s A->bI P is s B:=by
 induction is with
 |nil=>exact fun hab h=>hab _ h
 |cons i is ih=>exact fun hab h=>cT (fun s hs=>ih hab hs) h
def yR(E:Env):List Ins->St->(St->Option R)->Option R
 |[],s,K=>K s
 |i ::is,s,K=>G5 E i s fun s'=>yR E is s' K
theorem oV{E:Env}(hc:E.OK P){is:List Ins}:∀{s:St} {K:St->Option R} {r:R},yR E is s K=some r->bI P is s fun s'=>K s'=some r:=by
 induction is with
 |nil=>exact fun h=>h
 |cons i is ih=>exact fun h=>cT (fun s hs=>ih hs) (AD hc h)
def oP:List DV->List Nat->(List DV->Option R)->Option R
 |t,[],K=>K t
 |t,n ::ns,K=>nO t n .top fun t=>oP t ns K
theorem xT(t:List DV)(ns:List Nat)(K:List DV->Option R):oP t ns K=K (forget t ns):=by
 induction ns generalizing t with
 |nil=>rfl
 |cons n ns ih=>simp only[oP,forget,i5,ih]
def tJ:List (Option Box)->List Nat->(List (Option Box)->Option R)->Option R
 |t,[],K=>K t
 |t,n ::ns,K=>nO t n none fun t=>tJ t ns K
theorem w7(t:List (Option Box))(ns:List Nat)(K:List (Option Box)->Option R):tJ t ns K=K (dropB t ns):=by
 induction ns generalizing t with
 |nil=>rfl
 |cons n ns ih=>simp only[tJ,dropB,i5,ih]
def FK(b:List (Option Box))(zs:List Nat)(K:List (Option Box)->Option R):Option R :=
 match zs with
 |[]=>K b
 |k ::ks=>match bB b k with
  |some bx=>aN (bS (aY bx.rows)=true) (oM (some ⟨false,bx.size,aY bx.rows,bx.old⟩) fun x=>FK (aJ b k x) ks K)
  |none=>FK b ks K
theorem I1{zs:List Nat}:∀{b:List (Option Box)} {K:List (Option Box)->Option R} {r:R},FK b zs K=some r->oH b zs fun b=>K b=some r:=by
 induction zs with
 |nil=>exact fun h=>h
 |cons k ks ih=>
  intro b K r h;simp only[FK] at h;simp only[oH]
  split at h
  ·rename_i heq;simp only[heq]
   obtain⟨h1,h⟩:=aD h;rw[eC] at h;exact⟨h1,ih h⟩
  ·rename_i heq;simp only[heq];exact ih h
theorem CY{zs:List Nat}:∀{b:List (Option Box)} {A B:List (Option Box)->Prop},(∀b,A b->B b)->oH b zs A->oH b zs B:=by
 induction zs with
 |nil=>exact fun hab h=>hab _ h
 |cons k ks ih=>
  intro b A B hab h;simp only[oH] at h ⊢
  split at h
  ·exact⟨h.1,ih hab h.2⟩
  ·exact ih hab h
def jO:Nat->List DV->List Nat->(List DV->Option R)->Option R
 |_,[],_,K=>K []
 |_,d ::t,[],K=>K (d ::t)
 |i,d ::t,f ::fs,K=>if Nat.beq i f then jO (i+1) t fs fun r=>K (.top ::r) else jO (i+1) t (f ::fs) fun r=>K (d ::r)
def vQ:Nat->List Nat->Bool
 |_,[]=>true
 |i,f ::fs=>Nat.ble i f&&vQ (f+1) fs
def cL:Nat->List DV->List Nat->List DV
 |_,[],_=>[]
 |_,d ::t,[]=>d ::t
 |i,d ::t,f ::fs=>if Nat.beq i f then .top ::cL (i+1) t fs else d ::cL (i+1) t (f ::fs)
theorem xW(i:Nat)(t:List DV)(fs:List Nat)(K:List DV->Option R):jO i t fs K=K (cL i t fs):=by
 induction t generalizing i fs K with
 |nil=>simp[jO,cL]
 |cons d t ih=>cases fs with
  |nil=>rfl
  |cons f fs=>
   simp only[jO,cL]
   split<;>rw[ih]
theorem EW{fs:List Nat}:∀{i:Nat},vQ i fs=true->∀f,f∈fs->i<=f:=by
 induction fs with
 |nil=>intro i _ f hf;simp at hf
 |cons g fs ih=>
  intro i h f hf;simp only[vQ,b6,Nat.ble_eq] at h;rcases List.mem_cons.1 hf with rfl|hf
  ·exact h.1
  ·have:=ih h.2 f hf;omega
theorem rN:∀(t:List DV) (i:Nat) (fs:List Nat),vQ i fs=true->∀j:Nat,(cL i t fs)[j]?=if (i+j)∈fs then t[j]?.map (fun _=>DV.top) else t[j]?:=by
 intro t
 induction t with
 |nil=>intro i fs _ j;simp[cL]
 |cons d t ih=>
  intro i fs ha j
  cases fs with
  |nil=>simp[cL]
  |cons f fs=>
   simp only[cL];have ha':=ha;simp only[vQ,b6,Nat.ble_eq] at ha'
   split
   ·rename_i he
    have he:=Nat.eq_of_beq_eq_true he;subst he
    cases j with
    |zero=>simp
    |succ j=>
     rw[List.getElem?_cons_succ,ih (i+1) fs ha'.2 j,List.getElem?_cons_succ];have:i+1+j=i+(j+1):=by omega
     rw[this];have hne:i+(j+1)≠i:=by omega
     simp[hne]
   ·rename_i he
    have he:i≠f:=fun e=>he (by rw[e];exact Nat.beq_refl f)
    have ha2:vQ (i+1) (f ::fs)=true:=by
     simp only[vQ,b6,Nat.ble_eq];exact⟨by omega,ha'.2⟩
    cases j with
    |zero=>
     have:¬(i+0)∈f ::fs:=fun hm=>by
      have:=EW ha2 _ hm;omega
     rw[if_neg this];rfl
    |succ j=>
     rw[List.getElem?_cons_succ,ih (i+1) (f ::fs) ha2 j,List.getElem?_cons_succ];have:i+1+j=i+(j+1):=by omega
     rw[this]
theorem xP:∀(fs:List Nat) (t:List DV) (j:Nat),(forget t fs)[j]?=if j∈fs then t[j]?.map (fun _=>DV.top) else t[j]?:=by
 intro fs
 induction fs with
 |nil=>intro t j;simp[forget]
 |cons f fs ih=>
  intro t j;simp only[forget];rw[ih,getElem?_setL]
  by_cases h1:j=f
  ·subst h1
   by_cases h2:j∈fs
   ·simp[h2];cases t[j]?<;>rfl
   ·simp[h2]
  ·by_cases h2:j∈fs<;>simp[h1,h2]
theorem uX{t:List DV}{fs:List Nat}(h:vQ 0 fs=true):cL 0 t fs=forget t fs:=by
 apply List.ext_getElem?
 intro j;rw[rN t 0 fs h j,xP,Nat.zero_add]
def lH(t:List DV)(fs:List Nat)(K:List DV->Option R):Option R:=if vQ 0 fs then jO 0 t fs K else oP t fs K
theorem rG(t:List DV)(fs:List Nat)(K:List DV->Option R):lH t fs K=K (forget t fs):=by
 unfold lH
 split
 ·rename_i h;rw[xW,uX h]
 ·rw[xT]
def DO(f:St->(St->Option R)->Option R):Nat->St->Option R
 |0,_=>none
 |n+1,s=>f s (DO f n)
def IT(s s':St):Bool:=mG UT s.t s'.t&&mG DP s.b s'.b
theorem JE{s s':St}(h:IT s s'=true):s=s':=by
 simp only[IT,b6] at h;cases s;cases s'
 simp only at h;rw[eY FO h.1,eY B9 h.2]
def vZ(f:rS->Option Unit)(rem:List rS):List rS->Option Unit
 |[]=>some ()
 |p ::ps=>bif iA rem p.2.2 then (match f p with
  |some _=>vZ f rem ps
  |none=>none) else vZ f rem ps
def DN(E:Env):Nat->List rS->St->(St->Option Unit)->Option Unit
 |0,_,_,_=>none
 |n+1,rem,s,K=>match rem with
  |[]=>K s
  |p ::rem'=>vZ (fun q=>G5 E q.2.1 s fun s'=>DN E n (mF q.1 (p ::rem')) s' K) (p ::rem') (p ::rem')
theorem J4{E:Env}(hc:E.OK P){K:St->Option Unit}{A:St->Prop}(hK:∀s,K s=some ()->A s):∀{n:Nat} {rem:List rS} {s:St},DN E n rem s K=some ()->n4 P n rem s A:=by
 intro n
 induction n with
 |zero=>intro rem s h;cases h
 |succ n ih=>
  intro rem s h
  cases rem with
  |nil=>rw[n4];exact hK _ h
  |cons p rem'=>
   rw[n4];simp only[DN] at h
   suffices ∀ps,vZ (fun q=>G5 E q.2.1 s fun s'=>DN E n (mF q.1 (p ::rem')) s' K) (p ::rem') ps=some ()->yT P n (p ::rem') ps s A from this _ h
   intro ps
   induction ps with
   |nil=>intro _;rw[yT];trivial
   |cons q ps ihp=>
    intro h;rw[yT];simp only[vZ] at h
    cases hr:iA (p ::rem') q.2.2 with
    |false=>rw[hr] at h;exact⟨fun e=>(by cases e),ihp h⟩
    |true=>
     rw[hr] at h;simp only[cond_true] at h
     split at h
     ·rename_i u hu
      exact⟨fun _=>cT (fun s' hs'=>ih hs') (AD hc hu),ihp h⟩
     ·cases h
def fY(E:Env)(fuel:Nat):C->St->(St->Option R)->(Nat->St->Option R)->(St->Option R)->Option R
 | .stuck,_,_,_,_=>none
 | .skip,s,n,_,_=>n s
 | .reg ops,s,n,_,_=>yR E ops s n
 | .regd ops,s,n,_,_=>yR E ops s n
 | .rega ops,s,n,_,_=>aN (aV ops s=true) (yR E ops s n)
 | .regm ops,s,n,_,_=>aN (IG ops s=true) (yR E ops s n)
 | .seq a b,s,n,x,r=>fY E fuel a s (fun s'=>fY E fuel b s' n x r) x r
 | .cond c a b,s,n,x,r=>match c,c.val s.t with
  | .t j,.p (.bool t)=>if t then nO s.t j (.p (.bool true)) fun t=>fY E fuel a ⟨t,s.b⟩ n x r else nO s.t j (.p (.bool false)) fun t=>fY E fuel b ⟨t,s.b⟩ n x r
  | .c _,.p (.bool t)=>if t then fY E fuel a s n x r else fY E fuel b s n x r
  |_,_=>none
 | .block id c,s,n,x,r=>fY E fuel c s n (fun j s'=>if j=id then n s' else x j s') r
 | .loop fs ds c,s,_,x,r=>lH s.t fs fun t=>tJ s.b ds fun b=>DO (fun s' N=>fY E fuel c s' (fun s2=>lH s2.t fs fun t=>tJ s2.b ds fun b=>N ⟨t,b⟩) x r) fuel ⟨t,b⟩
 | .exit id,s,_,x,_=>x id s
 | .ret,s,_,_,r=>r s
 | .gh _ _,_,_,_,_=>none
 | .gp c g,s,n,x,r=>match g with
  | .lay _ _=>fY E fuel c s n x r
  |_=>none
 | .pre fs zs ds c,s,n,x,r=>FK s.b zs fun b=>lH s.t fs fun t=>tJ b ds fun b=>fY E fuel c ⟨t,b⟩ n x r
 | .own i k ag c,s,n,x,r=>match aW s.t i with
  | .ow size _ rows=>aN ((decide (size≠0)&&(decide (k<s.b.length)&&(bL k s.t&&(aG k 0 s.b&&(nU i 0 s.t&&nV k 0 s.b)))))=true) (aN (rows.isEmpty=false) (aN (kG (cY rows)=true)
    (dM rows.length fun m=>nO s.t i (.bs k size ag 0 m) fun t=>oM (some ⟨true,size,cY rows,false⟩) fun bx=>nO s.b k bx fun b=>fY E fuel c ⟨t,b⟩ n x r)))
  |_=>none
 | .regx ops,s,n,_,_=>match yR E (EN ops) s some with
  |some s1=>match DN E (ops.length+1) (rH 0 ops) s (fun s2=>bif IT s2 s1 then some () else none) with
   |some _=>n s1
   |none=>none
  |none=>none
theorem uA{E:Env}(hc:E.OK P){fuel:Nat}:∀{c:C} {s:St} {n:St->Option R} {x:Nat->St->Option R} {r:St->Option R} {d:R}
  {N:St->Prop} {Xp:Nat->St->Prop} {Rp:St->Prop},(∀s,n s=some d->N s)->(∀j s,x j s=some d->Xp j s)->(∀s,r s=some d->Rp s) ->
  fY E fuel c s n x r=some d->vc P c s N Xp Rp:=by
 intro c
 induction c with
 |stuck=>exact fun _ _ _ h=>by cases h
 |gh g c _=>exact fun _ _ _ h=>by cases h
 |gp c g ih=>
  intro s n x r d N Xp Rp hn hx hr h
  cases g with
  |lay k m=>
   show vc P c s (fun s'=>GV P (.lay k m) s' N) Xp Rp
   exact ih (fun s hs=>by show IB s k m N;rw[AK];exact hn s hs) hx hr h
  |_=>cases h
 |skip=>exact fun hn _ _ h=>hn _ h
 |reg ops=>exact fun hn _ _ h=>iB hn (oV hc h)
 |regd ops=>exact fun hn _ _ h=>iB hn (oV hc h)
 |rega ops=>
  intro s n x r d N Xp Rp hn _ _ h;obtain⟨h1,h⟩:=aD h;exact⟨h1,iB hn (oV hc h)⟩
 |regm ops=>
  intro s n x r d N Xp Rp hn _ _ h;obtain⟨h1,h⟩:=aD h;exact⟨h1,iB hn (oV hc h)⟩
 |seq a b iha ihb=>exact fun hn hx hr h=>iha (fun s hs=>ihb hn hx hr hs) hx hr h
 |cond c a b iha ihb=>
  intro s n x r d N Xp Rp hn hx hr h
  cases c with
  |t j=>
   simp only[fY] at h;simp only[vc];generalize (O.t j).val s.t=dv at *
   cases dv with
   |p z=>
    cases z with
    |bool t=>
     simp only[i5] at h
     cases t with
     |true=>exact⟨fun _=>iha hn hx hr h,fun e=>by cases e⟩
     |false=>exact⟨(fun e=>by cases e),fun _=>ihb hn hx hr h⟩
    |_=>cases h
   |_=>cases h
  |c d0=>
   simp only[fY] at h;simp only[vc];generalize (O.c d0).val s.t=dv at *
   cases dv with
   |p z=>
    cases z with
    |bool t=>
     cases t with
     |true=>exact⟨fun _=>iha hn hx hr h,fun e=>by cases e⟩
     |false=>exact⟨(fun e=>by cases e),fun _=>ihb hn hx hr h⟩
    |_=>cases h
   |_=>cases h
 |block id c ih=>
  intro s n x r d N Xp Rp hn hx hr h;refine ih hn (fun j s hs=>?_) hr h
  split at hs
  ·rename_i e;rw[if_pos e];exact hn _ hs
  ·rename_i e;rw[if_neg e];exact hx _ _ hs
 |loop fs ds c ih=>
  intro s n x r d N Xp Rp hn hx hr h;simp only[fY,rG,w7] at h;refine⟨fuel,?_⟩;generalize (⟨forget s.t fs,dropB s.b ds⟩:St)=s0 at *
  suffices ∀k s0,DO (fun s' N=>fY E fuel c s' (fun s2=>N ⟨forget s2.t fs,dropB s2.b ds⟩) x r) k s0=some d->yK (fun s' N=>vc P c s' (fun s2=>N ⟨forget s2.t fs,dropB s2.b ds⟩) Xp Rp) k s0 from this fuel s0 h
  intro k
  induction k with
  |zero=>exact fun s0 h=>by cases h
  |succ k ihk=>exact fun s0 h=>ih (fun s hs=>ihk _ hs) hx hr h
 |exit id=>exact fun _ hx _ h=>hx _ _ h
 |ret=>exact fun _ _ hr h=>hr _ h
 |pre fs zs ds c ih=>
  intro s n x r d N Xp Rp hn hx hr h;simp only[fY,rG,w7] at h;exact CY (fun b hb=>ih hn hx hr hb) (I1 h)
 |regx ops=>
  intro s n x r d N Xp Rp hn _ _ h;simp only[fY] at h
  split at h
  ·rename_i s1 _
   split at h
   ·rename_i u hu
    refine J4 hc (fun s2 hs2=>?_) hu
    cases he:IT s2 s1 with
    |false=>rw[he] at hs2;cases hs2
    |true=>rw[JE he];exact hn _ h
   ·cases h
  ·cases h
 |own i k ag c ih=>
  intro s n x r d N Xp Rp hn hx hr h;simp only[fY,bN,i5,eC] at h;simp only[vc]
  split at h
  ·rename_i size nl rows hg
   obtain⟨h1,h⟩:=aD h;obtain⟨h2,h⟩:=aD h;obtain⟨h3,h⟩:=aD h;rw[hg];exact⟨h1,(fun e=>by subst e;cases h2),h3,ih hn hx hr h⟩
  ·cases h
def QX(b:List (Option Box))(K:TV->Option R):DV->Option R
 | .p x=>K (.p x)
 | .ow size n rows=>K (.ow size n rows)
 |d=>match d.frz b with
  |some x=>K (.p x)
  |none=>none
def FJ(s:St)(K:TV->Option R):RV->Option R
 | .tmp t=>QX s.b K (aW s.t t)
 | .cell t n=>match aW s.t t with
  | .addr k sz r off=>match bB s.b k with
   |some bx=>aN (sz=bx.size) (match bx.rows[r]? with
    |some row=>aN (off+n<=row.length) (match bU (dV row off n) with
     |some cs=>K (.p (.agg cs))
     |none=>none)
    |none=>none)
   |none=>none
  |_=>none
def lY(s:St):List RV->(List TV->Option R)->Option R
 |[],K=>K []
 |r ::rs,K=>FJ s (fun x=>lY s rs fun xs=>K (x ::xs)) r
theorem JF{b:List (Option Box)}{K:TV->Option R}{v:DV}{d:R}{N:TV->Prop}(hn:∀x,K x=some d->N x)(h:QX b K v=some d):PL b N v:=by
 have other:∀{v:DV},(match v.frz b with|some x=>K (.p x)|none=>none)=some d->(match v.frz b with|some x=>N (.p x)|none=>False):=by
  intro v h
  split at h
  ·exact hn _ h
  ·cases h
 cases v with
 |p x=>exact hn _ h
 |ow a b c=>exact hn _ h
 |top=>exact other (v:=.top) h
 |tup ds=>exact other (v:=.tup ds) h
 |addr a1 a2 a3 a4=>exact other (v:=.addr a1 a2 a3 a4) h
 |bs a1 a2 a3 a4 a5=>exact other (v:=.bs a1 a2 a3 a4 a5) h
 |fn a1 a2=>exact other (v:=.fn a1 a2) h
 |mh a1=>exact other (v:=.mh a1) h
 |ob a1=>exact other (v:=.ob a1) h
 |pk a1=>exact other (v:=.pk a1) h
 |agd a1=>exact other (v:=.agd a1) h
theorem FZ{s:St}{K:TV->Option R}{rv:RV}{d:R}{N:TV->Prop}(hn:∀x,K x=some d->N x)(h:FJ s K rv=some d):rR s N rv:=by
 cases rv with
 |tmp t=>exact JF hn h
 |cell t n=>
  simp only[FJ] at h;simp only[rR]
  split at h
  ·rename_i heq;simp only[heq]
   split at h
   ·rename_i heq;simp only[heq]
    obtain⟨h1,h⟩:=aD h
    split at h
    ·rename_i hrow
     obtain⟨h2,h⟩:=aD h;refine⟨h1,_,hrow,h2,?_⟩
     split at h
     ·rename_i heq;simp only[heq];exact hn _ h
     ·cases h
    ·cases h
   ·cases h
  ·cases h
theorem r8{s:St}{rvs:List RV}:∀{K:List TV->Option R} {d:R} {N:List TV->Prop},(∀x,K x=some d->N x)->lY s rvs K=some d->eX s rvs N:=by
 induction rvs with
 |nil=>exact fun hn h=>hn _ h
 |cons r rs ih=>exact fun hn h=>FZ (fun x hx=>ih (fun xs hxs=>hn _ hxs) hx) h
def E5(v:Option DV):Option DV:=match v with
 |some v=>if v.plain then some v else none
 |none=>none
abbrev Tbl:=List (Nat×Fn)
def Tbl.get:Tbl->Nat->Option Fn
 |[],_=>none
 |(k,F) ::l,f=>if Nat.beq k f then some F else Tbl.get l f
theorem DM{b:List (Option Box)}{A B:TV->Prop}(hab:∀x,A x->B x){d:DV}(h:PL b A d):PL b B d:=by
 unfold PL at h ⊢
 split at h
 ·exact hab _ h
 ·exact hab _ h
 ·split at h
  ·exact hab _ h
  ·exact h
theorem sI{s:St}{A B:TV->Prop}(hab:∀x,A x->B x){r:RV}(h:rR s A r):rR s B r:=by
 unfold rR at h ⊢
 split at h
 ·exact DM hab h
 ·split at h
  ·split at h
   ·obtain⟨h1,row,h2,h3,h4⟩:=h
    refine⟨h1,row,h2,h3,?_⟩
    split at h4
    ·exact hab _ h4
    ·exact h4
   ·exact h
  ·exact h
theorem nH{s:St}:∀{rs:List RV} {A B:List TV->Prop},(∀x,A x->B x)->eX s rs A->eX s rs B
 |[],_,_,hab,h=>hab _ h
 |_ ::_,_,_,hab,h=>sI (fun x hx=>nH (fun xs h=>hab _ h) hx) h
theorem yN{s:St}{A:Prop}{r:RV}(h:rR s (fun _=>A) r):A:=by
 unfold rR PL at h
 split at h
 ·split at h
  ·exact h
  ·exact h
  ·split at h
   ·exact h
   ·exact h.elim
 ·split at h
  ·split at h
   ·obtain⟨h1,row,h2,h3,h4⟩:=h
    split at h4
    ·exact h4
    ·exact h4.elim
   ·exact h.elim
  ·exact h.elim
theorem pW{s:St}{A:Prop}:∀{rs:List RV},eX s rs (fun _=>A)->A
 |[],h=>h
 |_ ::_,h=>pW (yN (sI (B:=fun _=>eX s _ fun _=>A) (fun _ h=>h) h))
def tT(nb:Nat)(size:Nat)(rv:List RV)(s:St):Option (List (List DV)×DV) :=
 match bB s.b nb with
 |some ⟨true,sz,rows,true⟩=>aN (sz=size) (lY s rv fun xs=>GU (c9 xs) fun v=>some (rows,v))
 |_=>none
def zW(v:Option (List (List DV)×DV)):Option (List (List DV)×DV):=match v with
 |some (rows,v)=>if v.plain&&bS rows then some (rows,v) else none
 |none=>none
def HX(nb:Nat):List Box->(List (Option Box)->Option R)->Option R
 |[],K=>K []
 |bx ::l,K=>jX (fun i=>some (nb+i)) bx.rows fun rows=>dM bx.size fun sz=>HX nb l fun l=>K (some ⟨true,sz,rows,true⟩ ::l)
theorem HR(nb:Nat)(l:List Box)(K:List (Option Box)->Option R):HX nb l K=K (KA nb l):=by
 induction l generalizing K with
 |nil=>rfl
 |cons x xs ih=>simp only[HX,KA,iC,bN];rw[ih]
def NU(n nb:Nat)(args:List DV)(bs:List Box)(K:St->Option R):Option R :=
 pX (fun i=>some (nb+i)) args fun xs=>eK (xs++List.replicate (n-args.length) .top) fun t=>HX nb bs fun l=>eK (List.replicate nb none++l) fun b=>K ⟨t,b⟩
theorem J2(n nb:Nat)(args:List DV)(bs:List Box)(K:St->Option R):NU n nb args bs K=K (J8 n nb args bs):=by
 simp only[NU,sN,eJ,HR,J8]
def yL(s:St)(rvs:List RV)(K:DV->Option R):Option R :=
 match rvs with
 |[.tmp t]=>if LQ s.b (aW s.t t)=true then K (aW s.t t) else lY s [.tmp t] fun xs=>K (c9 xs)
 |rvs=>lY s rvs fun xs=>K (c9 xs)
theorem BU{s:St}{rvs:List RV}{K:DV->Option R}{d:R}{N:DV->Prop}(hn:∀x,K x=some d->N x)(h:yL s rvs K=some d):oE s rvs N:=by
 have gen:∀{l:List RV},(lY s l fun xs=>K (c9 xs))=some d->eX s l fun xs=>N (c9 xs):=fun h=>r8 (fun xs hx=>hn _ hx) h
 match rvs,h with
 |[.tmp t],h=>
  simp only[yL] at h;simp only[oE]
  split at h
  ·rename_i hr;rw[if_pos hr];exact hn _ h
  ·rename_i hr;rw[if_neg hr];exact gen h
 |[],h=>exact gen h
 |[.cell t n],h=>exact gen h
 | .tmp _ ::_ ::_,h=>exact gen h
 | .cell _ _ ::_ ::_,h=>exact gen h
def n9(b:List (Option Box))(nb m:Nat)(ν:Nat->Option Nat):List Nat->(List (Option Box)->Option R)->Option R
 |[],K=>K []
 |k ::ks,K=>if lA b nb m k then match dK b k with
   |some bx=>jX ν bx.rows fun rows=>dM bx.size fun sz=>n9 b nb m ν ks fun l=>K (some ⟨true,sz,rows,false⟩ ::l)
   |none=>n9 b nb m ν ks fun l=>K (none ::l)
  else n9 b nb m ν ks fun l=>K (none ::l)
theorem D2(b:List (Option Box))(nb m:Nat)(ν:Nat->Option Nat)(l:List Nat)(K:List (Option Box)->Option R):n9 b nb m ν l K=K (mW b nb m ν l):=by
 induction l generalizing K with
 |nil=>rfl
 |cons x xs ih=>
  simp only[n9,mW,H1]
  split
  ·split<;>(rename_i heq;simp only[heq,iC,bN];rw[ih])
  ·rw[ih]
def GN(b:List (Option Box))(nb m:Nat)(r:DV)(K:List (Option Box)->DV->Option R):Option R :=
 qP (qS b (dF nb m) (lE r [])) fun ws=>qP (dF nb m) fun rs=>iE b 4000 ws rs fun all=>n9 b nb m (LL b nb m all) all fun bs=>A8 (LL b nb m all) r fun r=>K bs r
theorem GJ(b:List (Option Box))(nb m:Nat)(r:DV)(K:List (Option Box)->DV->Option R):GN b nb m r K=K (x5 b nb m r).1 (x5 b nb m r).2:=by
 simp only[GN,wX,dZ,D2,xH,x5,FA]
def u9(nb m:Nat)(rv:List RV)(s:St):Option (List (Option Box)×DV):=yL s rv fun r0=>GU r0 fun r0=>GN s.b nb m r0 fun bs r=>some (bs,r)
def AN(m:Nat)(v:Option (List (Option Box)×DV)):Option (List (Option Box)×DV):=match v with
 |some (bs',r)=>if (r.plain||r.isRef)&&Nat.ble m bs'.length then some (bs',r) else none
 |none=>none
def oK(ext:FuncId->List PV->Option DV)(extO:FuncId->List DV->List Box->Option (List (Option Box)×DV))(tbl:Tbl):Nat->Env
 |0=>⟨fun _ _=>none,fun _ _ _ _=>none,fun _ _ _=>none⟩
 |n+1=>
  ⟨fun f args => match tbl.get f with
   |some F=>E5 (fY (oK ext extO tbl n) (n+1) F.c (K9 F.n F.nb args) (fun s=>lY s F.rv fun xs=>GU (c9 xs) some) (fun _ _=>none) (fun s=>lY s F.rv fun xs=>GU (c9 xs) some))
   |none=>ext f args,
   fun f size args rows=>match tbl.get f with
   |some F=>if (decide (size≠0))&&(bS rows&&args.all DV.arg) then zW (fY (oK ext extO tbl n) (n+1) F.c (OZ F.n F.nb args size rows) (tT F.nb size F.rv) (fun _ _=>none) (tT F.nb size F.rv)) else none
   |none=>none,
   fun f args bs=>match tbl.get f with
   |some F=>if o9 bs then AN bs.length (NU F.n F.nb args bs fun s=>fY (oK ext extO tbl n) (n+1) F.c s (u9 F.nb bs.length F.rv) (fun _ _=>none) (u9 F.nb bs.length F.rv)) else none
   |none=>extO f args bs⟩
structure TblOK (P:Program) (tbl:Tbl):Prop where
 all:∀f F,tbl.get f=some F->aI P f F=true
theorem TblOK.nil:TblOK P []:=⟨fun f F h=>by cases h⟩
theorem TblOK.cons{k:Nat}{F:Fn}{l:Tbl}(h:aI P k F=true)(hl:TblOK P l):TblOK P ((k,F) ::l):=by
 refine⟨fun f G hf=>?_⟩
 simp only[Tbl.get] at hf
 split at hf
 ·rename_i e
  have:k=f:=Nat.eq_of_beq_eq_true e;subst this;injection hf with hf
  subst hf;exact h
 ·exact hl.all f G hf
theorem lB{ext:FuncId->List PV->Option DV}{extO:FuncId->List DV->List Box->Option (List (Option Box)×DV)}(he:∀f a d,ext f a=some d->aO P f a d)(heO:∀f a bs bs' d,extO f a bs=some (bs',d)->aX P f a bs bs' d)
  {tbl:Tbl} (ht:TblOK P tbl):∀{n:Nat},(oK ext extO tbl n).OK P:=by
 intro n
 induction n with
 |zero=>exact⟨(fun f a d h=>by cases h),(fun f n a r r' d h=>by cases h),(fun f a bs bs' d h=>by cases h)⟩
 |succ n ih=>
  refine⟨fun f args d h=>?_,fun f size args rows rows' d h=>?_,fun f args bs bs' d h=>?_⟩
  ·simp only[oK] at h
   split at h
   ·rename_i F hF
    unfold E5 at h
    split at h
    ·rename_i v hv
     split at h
     ·rename_i hp
      injection h with h
      subst h;have hpost:∀s:St,(lY s F.rv fun xs=>GU (c9 xs) some)=some v->F.post v s:=fun s hs=>r8 (fun xs hx=>by rw[nJ] at hx;injection hx) hs
      exact Fn.pure (ht.all _ _ hF) hp (uA ih hpost (fun _ _ h=>by cases h) hpost hv)
     ·cases h
    ·cases h
   ·exact he _ _ _ h
  ·simp only[oK] at h
   split at h
   ·rename_i F hF
    split at h
    ·rename_i hpre
     simp only[b6,decide_eq_true_eq] at hpre;unfold zW at h
     split at h
     ·rename_i rws v hv
      split at h
      ·rename_i hp
       simp only[b6] at hp;injection h with h
       injection h with h1 h2
       subst h1;subst h2
       have hpost:∀s:St,tT F.nb size F.rv s=some (rws,v)->F.postM size rws v s:=fun s hs=>by
        unfold tT at hs
        split at hs
        ·rename_i sz rows0 hg
         obtain⟨hsz,hs2⟩:=aD hs;subst hsz
         have:=r8 (N:=fun xs=>rows0=rws/\c9 xs=v) (fun xs hx=>by
          rw[nJ] at hx;injection hx with hx
          injection hx with hx1 hx2
          exact⟨hx1,hx2⟩) hs2
         refine⟨?_,nH (fun xs h=>h.2) this⟩
         have e:rows0=rws:=pW (nH (fun xs h=>h.1) this)
         rw[hg,e]
        ·cases hs
       exact Fn.mcall (ht.all _ _ hF) hp.1 hpre.2.1 hp.2 hpre.2.2 hpre.1 (uA ih hpost (fun _ _ h=>by cases h) hpost hv)
      ·cases h
     ·cases h
    ·cases h
   ·cases h
  ·simp only[oK] at h
   split at h
   ·rename_i F hF
    split at h
    ·rename_i hlv
     unfold AN at h
     split at h
     ·rename_i bs2 r2 hv
      split at h
      ·rename_i hp
       simp only[b6] at hp;injection h with h
       injection h with h1 h2
       subst h1;subst h2;rw[J2] at hv
       have hpost:∀s:St,u9 F.nb bs.length F.rv s=some (bs2,r2)->F.postO bs.length bs2 r2 s:=fun s hs=>by
        unfold u9 at hs;refine BU (fun x hx=>?_) hs
        simp only[nJ,GJ,bG] at hx;exact hx
       exact Fn.ocall (ht.all _ _ hF) hp.1 hlv hp.2 (uA ih hpost (fun _ _ h=>by cases h) hpost hv)
      ·cases h
     ·cases h
    ·cases h
   ·exact heO _ _ _ _ _ h
end Go.Proofs.YtnjphclbpgajpaaGreatDoor.Vc
namespace Go.Proofs.YtnjphclbpgajpaaGreatDoor
open Go.Shelf
def Tryz.lays156_ren:Go.Shelf.Ren:=⟨fun|156=>259|165=>268|166=>269|169=>270|240=>276|241=>277|276=>297|277=>298|n=>n,fun|31=>315|9=>9|3=>3|4=>4|0=>0|20=>20|72=>328|76=>331|70=>325|37=>326|75=>330|127=>338|164=>352|5=>5|80=>333|n=>n,fun|n=>n⟩
theorem Tryz.lays156:Go.Proofs.Lays.n156 Tryz.prog Tryz.lays156_ren:={
 mixed:=by kernel_rfl
 f156:=Tryz.func259.trans (congrArg some (by kernel_rfl))
 f165:=Tryz.func268.trans (congrArg some (by kernel_rfl))
 f166:=Tryz.func269.trans (congrArg some (by kernel_rfl))
 f169:=Tryz.func270.trans (congrArg some (by kernel_rfl))
 f240:=Tryz.func276.trans (congrArg some (by kernel_rfl))
 f241:=Tryz.func277.trans (congrArg some (by kernel_rfl))
 f276:=Tryz.func297.trans (congrArg some (by kernel_rfl))
 f277:=Tryz.func298.trans (congrArg some (by kernel_rfl))
 t0:=Tryz.underlying0
 a0:=Tryz.isAgg0
 z0:=Tryz.sizeOf0
 v0:=Tryz.zeroValue0
 t3:=Tryz.underlying3
 a3:=Tryz.isAgg3
 z3:=Tryz.sizeOf3
 v3:=Tryz.zeroValue3
 t4:=Tryz.underlying4
 a4:=Tryz.isAgg4
 z4:=Tryz.sizeOf4
 v4:=Tryz.zeroValue4
 t9:=Tryz.underlying9
 a9:=Tryz.isAgg9
 z9:=Tryz.sizeOf9
 v9:=Tryz.zeroValue9
 t20:=Tryz.underlying20
 a20:=Tryz.isAgg20
 z20:=Tryz.sizeOf20
 v20:=Tryz.zeroValue20
 t31:=Tryz.underlying315
 a31:=Tryz.isAgg315
 z31:=Tryz.sizeOf315
 v31:=Tryz.zeroValue315
 t37:=Tryz.underlying326
 a37:=Tryz.isAgg326
 z37:=Tryz.sizeOf326
 v37:=Tryz.zeroValue326
 t70:=Tryz.underlying325
 a70:=Tryz.isAgg325
 z70:=Tryz.sizeOf325
 v70:=Tryz.zeroValue325
 t72:=Tryz.underlying328
 a72:=Tryz.isAgg328
 z72:=Tryz.sizeOf328
 v72:=Tryz.zeroValue328
 t75:=Tryz.underlying330
 a75:=Tryz.isAgg330
 z75:=Tryz.sizeOf330
 v75:=Tryz.zeroValue330
 t76:=Tryz.underlying331
 a76:=Tryz.isAgg331
 z76:=Tryz.sizeOf331
 v76:=Tryz.zeroValue331
 t127:=Tryz.underlying338
 a127:=Tryz.isAgg338
 z127:=Tryz.sizeOf338
 v127:=Tryz.zeroValue338
 t164:=Tryz.underlying352
 a164:=Tryz.isAgg352
 z164:=Tryz.sizeOf352
 v164:=Tryz.zeroValue352 }
theorem Tryz.Builder_Extra_156:Builder.Extra Tryz.prog Tryz.lays156_ren:={
 sizeBuilder:=by kernel_rfl
 liesBuilder:=by kernel_rfl
 t5:=Tryz.underlying5
 a5:=Tryz.isAgg5
 z5:=Tryz.sizeOf5
 v5:=Tryz.zeroValue5
 infoByte:=by kernel_rfl
 cellsByte:=by kernel_rfl
 sizeByte:=by kernel_rfl
 neB5:=by decide }
open Go.RowKit in
theorem Tryz.strings_Join_none(a:Option Addr)(c:Nat)(sep:ByteArray)(w:World) :
  Calls Tryz.prog 259 #[.slice a 0 c,.string sep] w fun e w'=>e=.returned (.string ⟨#[]⟩)/\w'=w:=Any.strings_Join_none Tryz.lays156 Tryz.Builder_Extra_156 a c sep w
open Go.RowKit in
theorem Tryz.strings_Join(bk o c:Nat)(xs:List ByteArray)(sep:ByteArray)(w:World)(hcells:∀(j:Nat) x,xs[j]?=some x->w.cell? ⟨bk,o+j,none⟩=some (.string x))(hbk:bk<w.heap.size)(hN:xs.length<=140737488355328)(hcap:xs.length<=c)(hlen:(Lib.join (xs.map (·.data.toList)) sep.data.toList).length<=140737488355328) :
  Calls Tryz.prog 259 #[.slice (some ⟨bk,o,none⟩) xs.length c,.string sep] w fun e w'=>e=.returned (.string ⟨(Lib.join (xs.map (·.data.toList)) sep.data.toList).toArray⟩)/\Below w.heap.size w w':=Any.strings_Join Tryz.lays156 Tryz.Builder_Extra_156 bk o c xs sep w hcells hbk hN hcap hlen
end Go.Proofs.YtnjphclbpgajpaaGreatDoor
namespace Go.Proofs.YtnjphclbpgajpaaGreatDoor.Vc
open Go.RowKit
variable {P:Program}
theorem oA{f:FuncId}{args:List PV}{r:PV}{v:Value}{cs:Array Value}(hr:∀M w,Flat M w r v)(hcs:∀(M0:Nat->Nat->Prop) (w:World) (cargs:Array Value),cargs.size=args.length ->
  (∀(j:Nat) x u,args[j]?=some x->cargs[j]?=some u->Flat M0 w x u)->cargs=cs) (h:∀w,(callFunc f cs).run P w=.ok (.value v) w):aO P f args (.p r):=by
 refine⟨rfl,fun M0 w cargs hs ha=>.inr ⟨v,⟨fun _=>none,fun _=>none,M0,w,fun _=>none⟩,?_,hr _ _,fun _ _ _=>Iff.rfl,⟨rfl,rfl,rfl,Nat.le_refl _,fun _ _=>rfl⟩⟩⟩
 rw[hcs M0 w cargs hs ha];exact h w
theorem uZ{M:Nat->Nat->Prop}{w:World}{s:ByteArray}{v:Value}(h:Flat M w (.str s) v):v=.string s:=by cases h;rfl
theorem p7{M:Nat->Nat->Prop}{w:World}{k:IntKind}{n:Int}{v:Value}(h:Flat M w (.int k n) v):v=.int k n:=by cases h;rfl
theorem mA{s:ByteArray}{k:IntKind}{n:Int}(M0:Nat->Nat->Prop)(w:World)(cargs:Array Value)(hs:cargs.size=[PV.str s,PV.int k n].length)
  (ha:∀(j:Nat) x u,[PV.str s,PV.int k n][j]?=some x->cargs[j]?=some u->Flat M0 w x u):cargs = #[.string s,.int k n]:=by
 obtain⟨l⟩:=cargs
 match l,hs with
 |[a,b],_=>
  have h0:=uZ (ha 0 _ a rfl rfl);have h1:=p7 (ha 1 _ b rfl rfl);rw[h0,h1]
theorem J9(s:ByteArray)(c:Int):aO Tryz.prog 324 [.str s,.int .u8 c] (.p (.int .i64 (Lib.indexByte s.data.toList c.toNat.toUInt8))):=by
 refine oA (fun _ _=>.int _ _) mA fun w=>?_
 rw[run_callFunc_extern Tryz.func324 (by decide) rfl rfl (e:=Extern.BytealgIndexByte.indexByte) rfl]
 rw[Lib.run_indexByteString]
 rfl
theorem HC(s:ByteArray)(c:Int):aO Tryz.prog 301 [.str s,.int .u8 c] (.p (.int .i64 (Lib.countByte s.data.toList c.toNat.toUInt8))):=by
 refine oA (fun _ _=>.int _ _) mA fun w=>?_
 rw[run_callFunc_extern Tryz.func301 (by decide) rfl rfl (e:=Extern.BytealgCount.count) rfl]
 rw[Lib.run_countString]
 rfl
theorem IC(x y c:Int)(hx:0<=x)(hy:0<=y)(hc0:0<=c)(hc:c<=1):aO Tryz.prog 243 [.int .u64 x,.int .u64 y,.int .u64 c]
  (.tup [.p (.int .u64 ((x+y+c)%18446744073709551616)),.p (.int .u64 ((x+y+c)/18446744073709551616))]):=by
 refine⟨rfl,fun M0 w cargs hs ha=>.inr ⟨.tuple #[.int .u64 ((x+y+c)%18446744073709551616),.int .u64 ((x+y+c)/18446744073709551616)],
  ⟨fun _=>none,fun _=>none,M0,w,fun _=>none⟩,?_,⟨_,rfl,rfl,?_⟩,fun _ _ _=>Iff.rfl,⟨rfl,rfl,rfl,Nat.le_refl _,fun _ _=>rfl⟩⟩⟩
 ·obtain⟨l⟩:=cargs
  match l,hs with
  |[p,q,r],_=>
   have h0:=p7 (ha 0 _ p rfl rfl);have h1:=p7 (ha 1 _ q rfl rfl);have h2:=p7 (ha 2 _ r rfl rfl);rw[h0,h1,h2];rw[run_callFunc_extern Tryz.func243 (by decide) rfl rfl (e:=add64Entry) rfl]
   have:=run_add64 (P:=Tryz.prog) x y c hx hy hc0 hc w;rw[this]
   rfl
 ·intro j d u hj hu
  match j with
  |0=>cases hj;cases hu;exact .int _ _
  |1=>cases hj;cases hu;exact .int _ _
  |j+2=>simp at hj
def uJ:List PV->Option (List ByteArray)
 |[]=>some []
 | .str s ::l=>match uJ l with
  |some xs=>some (s ::xs)
  |none=>none
 |_=>none
theorem yM{l:List PV}:∀{xs:List ByteArray},uJ l=some xs->l=xs.map .str:=by
 induction l with
 |nil=>intro xs h;cases h;rfl
 |cons a l ih=>
  intro xs h;unfold uJ at h
  split at h
  ·rename_i heq;cases heq
  ·rename_i heq
   injection heq with e1 e2
   subst e1;subst e2
   split at h
   ·rename_i hx;injection h with h;subst h;rw[ih hx];rfl
   ·cases h
  ·cases h
theorem IH(size:Nat)(nl:Bool)(xs:List ByteArray)(sep:ByteArray)(hN:xs.length<=140737488355328)
  (hlen:(Lib.join (xs.map (·.data.toList)) sep.data.toList).length<=140737488355328) (hsz:size=1) :
  aO Tryz.prog 259 [.sl size nl (xs.map .str),.str sep] (.p (.str ⟨(Lib.join (xs.map (·.data.toList)) sep.data.toList).toArray⟩)):=by
 subst hsz;refine⟨rfl,fun M0 w cargs hs ha=>.inl ⟨⟨_,Tryz.func259,rfl,by decide⟩,?_⟩⟩
 obtain⟨l⟩:=cargs
 match l,hs with
 |[a,b],_=>
  have h0:=ha 0 _ a rfl rfl;have h1:=uZ (ha 1 _ b rfl rfl);subst h1
  cases xs with
  |nil=>
   have:∃ad c,a=.slice ad 0 c:=by
    cases h0 with
    |nilsl=>exact⟨_,_,rfl⟩
    |sl0=>exact⟨_,_,rfl⟩
    |sl=>exact⟨_,_,rfl⟩
   obtain⟨ad,c,rfl⟩:=this;refine(Tryz.strings_Join_none ad c sep w).mono fun e w' h=>?_
   obtain⟨h1,h2⟩:=h;subst h2;exact⟨_,⟨fun _=>none,fun _=>none,M0,w',fun _=>none⟩,h1,rfl,.str _,fun _ _ _=>Iff.rfl,⟨rfl,rfl,rfl,Nat.le_refl _,fun _ _=>rfl⟩⟩
  |cons x0 xs=>
   cases h0 with
   |sl _ _ bk off cap cv hcap hmax hc hrs h1 hr=>
    have hcell:∀(j:Nat) x,(x0 ::xs)[j]?=some x->w.cell? ⟨bk,off+j,none⟩=some (.string x):=by
     intro j x hj;have hjl:j<(x0 ::xs).length:=(bH.1 hj).1;have hf:=hr j 0 (.str x) (.str x) (by rw[List.getElem?_map,hj];rfl) rfl
     have:=(hc j (by simp only[List.length_map,Nat.mul_one];exact hjl)).1
     rw[this];simp only[Nat.mul_one,Nat.add_zero] at hf;rw[uZ hf]
    have hbk:bk<w.heap.size:=by
     have:=hcell 0 x0 rfl;unfold World.cell? at this
     by_cases hb:bk<w.heap.size
     ·exact hb
     ·have e:w.heap[bk]?=none:=Array.getElem?_eq_none (by omega)
      simp[e] at this
    have hcap':(x0 ::xs).length<=cap:=by simpa using hcap
    have hlm:((x0 ::xs).map PV.str).length=(x0 ::xs).length:=List.length_map _;rw[hlm];refine(Tryz.strings_Join bk off cap (x0 ::xs) sep w hcell hbk hN hcap' hlen).mono fun e w' h=>?_
    obtain⟨h1,h2⟩:=h;exact⟨_,⟨fun _=>none,fun _=>none,M0,w',fun _=>none⟩,h1,rfl,.str _,fun _ _ _=>Iff.rfl,h2⟩
def CK(f:FuncId)(args:List PV):Option DV :=
 match args with
 |[.str s,.int .u8 c]=>if Nat.beq f 324 then some (.p (.int .i64 (Lib.indexByte s.data.toList c.toNat.toUInt8)))
  else if Nat.beq f 301 then some (.p (.int .i64 (Lib.countByte s.data.toList c.toNat.toUInt8))) else none
 |[.int .u64 x,.int .u64 y,.int .u64 c]=>if Nat.beq f 243&&(decide (0<=x)&&(decide (0<=y)&&(decide (0<=c)&&decide (c<=1)))) then
  some (.tup [.p (.int .u64 ((x+y+c)%18446744073709551616)),.p (.int .u64 ((x+y+c)/18446744073709551616))]) else none
 |[.sl size _ rows,.str sep]=>if Nat.beq f 259 then match uJ rows with
  |some xs=>if Nat.beq size 1&&(Nat.ble xs.length 1000&&Nat.ble (Lib.join (xs.map (·.data.toList)) sep.data.toList).length 100000) then some (.p (.str ⟨(Lib.join (xs.map (·.data.toList)) sep.data.toList).toArray⟩)) else none
  |none=>none
  else none
 |_=>none
theorem oZ(f:FuncId)(args:List PV)(d:DV)(h:CK f args=some d):aO Tryz.prog f args d:=by
 unfold CK at h
 split at h
 ·split at h
  ·rename_i e
   have:=Nat.eq_of_beq_eq_true e;subst this;injection h with h;subst h
   exact J9 _ _
  ·split at h
   ·rename_i e
    have:=Nat.eq_of_beq_eq_true e;subst this;injection h with h;subst h
    exact HC _ _
   ·cases h
 ·split at h
  ·rename_i e
   simp only[b6,decide_eq_true_eq] at e;obtain⟨e,h1,h2,h3,h4⟩:=e;have:=Nat.eq_of_beq_eq_true e;subst this;injection h with h;subst h
   exact IC _ _ _ h1 h2 h3 h4
  ·cases h
 ·split at h
  ·rename_i e
   have:=Nat.eq_of_beq_eq_true e;subst this
   split at h
   ·rename_i hx
    split at h
    ·rename_i hh
     simp only[b6,Nat.ble_eq] at hh;injection h with h;subst h
     rw[yM hx];exact IH _ _ _ _ (by omega) (by omega) (Nat.eq_of_beq_eq_true hh.1)
    ·cases h
   ·cases h
  ·cases h
 ·cases h
open Go.RowKit Ma
def BG(l:List Ld):Nat->Int->Option (Int×Bool)
 |0,_=>none
 |n+1,t=>if 20000<t then some (0,false) else F2 (cF l t) fun a=>if a=t then some (t,true) else BG l n a
theorem x9{l:List Ld}:∀{n:Nat} {t:Int} {r:Int×Bool},Seek l t->BG l n t=some r->c6 l=r:=by
 intro n
 induction n with
 |zero=>intro t r _ h;cases h
 |succ n ih=>
  intro t r hs h;simp only[BG,uU] at h
  split at h
  ·rename_i ht
   injection h with h;subst h
   exact hs.never (by omega)
  ·rename_i ht
   split at h
   ·rename_i he
    injection h with h;subst h
    exact hs.found (by omega) he
   ·rename_i he
    exact ih (hs.next (by omega) he).1 h
def E0(l:List Ld):Nat->Bool
 |0=>true
 |n+1=>decide (f7 l ((n:Int)+1)<=(n:Int)+1)&&E0 l n
theorem DF{l:List Ld}{n:Nat}:E0 l n=true↔∀t:Int,1<=t->t<=n->f7 l t<=t:=by
 induction n with
 |zero=>simp only[E0,true_iff];intro t h1 h2;omega
 |succ n ih=>
  simp only[E0,b6,decide_eq_true_eq,ih]
  constructor
  ·rintro⟨h1,h2⟩ t h3 h4
   by_cases e:t=(n:Int)+1
   ·subst e;exact h1
   ·exact h2 t h3 (by omega)
  ·intro h
   exact⟨h _ (by omega) (by omega),fun t h1 h2=>h t h1 (by omega)⟩
def sP(l:List Ld)(n:Nat):Option Bool :=
 if dT l=false then some false else if l.isEmpty then some true else match BG l n 1 with
 |some (e,true)=>some (E0 l e.toNat)
 |some (_,false)=>some false
 |none=>none
theorem gI{l:List Ld}{n:Nat}{b:Bool}(h:sP l n=some b):kN l=b:=by
 unfold sP at h
 split at h
 ·rename_i hm
  injection h with h;subst h
  rw[o4];intro hf;rw[hf.1] at hm;cases hm
 ·rename_i hm
  have hm:dT l=true:=by simpa using hm
  split at h
  ·rename_i he
   injection h with h;subst h
   exact jL.2 ⟨hm,.inl (List.isEmpty_iff.1 he)⟩
  ·rename_i he
   have hn:l≠[]:=fun e=>he (by rw[e];rfl)
   split at h
   ·rename_i e heq
    injection h with h;subst h
    have ht:=x9 (Seek.start hm hn) heq;have hb:=(mU (by rw[ht])).2
    rcases hb with ⟨h0,_⟩|⟨_,hb⟩
    ·exact absurd h0 hn
    ·rw[ht] at hb
     have he1:=hb.lo;rw[Bool.eq_iff_iff,jL,DF]
     constructor
     ·rintro⟨_,h0|⟨e2,hb2,hd⟩⟩
      ·exact absurd h0 hn
      ·have:=hb2.uniq hb
       subst this;intro t h1 h2;exact hd t h1 (by simp only at h2 he1;omega)
     ·intro hd
      exact⟨hm,.inr ⟨e,hb,fun t h1 h2=>hd t h1 (by simp only at he1;omega)⟩⟩
   ·rename_i e heq
    injection h with h;subst h
    have ht:=x9 (Seek.start hm hn) heq;rw[o4];rintro⟨_,h0|⟨e2,hb2,_⟩⟩
    ·exact hn h0
    ·rw[i9 hm hn hb2] at ht
     cases ht
   ·cases h
def jV(l:List Ld)(d t:Int)(f:Nat):Nat->Option Int
 |0=>some 0
 |n+1=>match sP (l++[⟨(n+1:Int),d,t⟩]) f with
  |some true=>some (n+1:Int)
  |some false=>jV l d t f n
  |none=>none
theorem tU{l:List Ld}{d t:Int}{f:Nat}:∀{n:Nat} {r:Int},jV l d t f n=some r->cG l d t n=r:=by
 intro n
 induction n with
 |zero=>intro r h;injection h
 |succ n ih=>
  intro r h;simp only[jV] at h;simp only[cG]
  split at h
  ·rename_i heq
   have hw:kD l (n+1:Int) d t=true:=gI heq;rw[if_pos hw];injection h
  ·rename_i heq
   have hw:kD l (n+1:Int) d t=false:=gI heq;rw[if_neg (by rw[hw];decide)];exact ih h
  ·cases h
def IA(l:List Ld)(d t:Int)(f:Nat):Option Bool:=match sP l f with
 |some b=>some (decide (l.length<=23)&&(decide (1<=d)&&(decide (d<=t)&&(decide (t<=200)&&b))))
 |none=>none
def GL(l:List Ld)(d t m:Int)(f:Nat):Option Int:=match IA l d t f with
 |some true=>jV l d t f (min m d).toNat
 |some false=>some 0
 |none=>none
theorem oX{l:List Ld}{d t:Int}{f:Nat}{b:Bool}(h:IA l d t f=some b):s9 l d t=b:=by
 unfold IA at h
 split at h
 ·rename_i heq
  injection h with h
  subst h;rw[<-gI heq];unfold s9;simp only[Bool.and_assoc]
 ·cases h
theorem GI{l:List Ld}{d t m:Int}{f:Nat}{r:Int}(h:GL l d t m f=some r):AR l d t m=r:=by
 unfold GL at h;unfold AR
 split at h
 ·rename_i heq
  rw[if_pos (oX heq)];exact tU h
 ·rename_i heq
  rw[if_neg (by rw[oX heq];decide)];injection h
 ·cases h
def mL(l:List Ld)(t:Int)(f:Nat):Nat->Int->Option Int
 |0,c=>some c
 |n+1,c=>match sP (l++[⟨c+1,c+1,t⟩]) f with
  |some true=>F2 (c+1) fun c=>mL l t f n c
  |some false=>some c
  |none=>none
theorem wP{l:List Ld}{t:Int}{f:Nat}:∀{n:Nat} {c r:Int},mL l t f n c=some r->iG l t n c=r:=by
 intro n
 induction n with
 |zero=>intro c r h;injection h
 |succ n ih=>
  intro c r h;simp only[mL,uU] at h;simp only[iG]
  split at h
  ·rename_i heq
   have hw:kD l (c+1) (c+1) t=true:=gI heq;rw[if_pos hw];exact ih h
  ·rename_i heq
   have hw:kD l (c+1) (c+1) t=false:=gI heq;rw[if_neg (by rw[hw];decide)];injection h
  ·cases h
def yW(l:List Ld)(t m:Int)(f:Nat):Option Int:=match IA l t t f with
 |some true=>mL l t f (min m t).toNat 0
 |some false=>some 0
 |none=>none
theorem CL{l:List Ld}{t m:Int}{f:Nat}{r:Int}(h:yW l t m f=some r):uE l t m=r:=by
 unfold yW at h;unfold uE
 split at h
 ·rename_i heq
  rw[if_pos (oX heq)];exact wP h
 ·rename_i heq
  rw[if_neg (by rw[oX heq];decide)];injection h
 ·cases h
def tD:List PV->Option (List Ld)
 |[]=>some []
 | .agg [.int .i64 c,.int .i64 d,.int .i64 t] ::l=>match tD l with
  |some xs=>some (⟨c,d,t⟩ ::xs)
  |none=>none
 |_=>none
theorem nQ{l:List PV}:∀{xs:List Ld},tD l=some xs->l=xs.map eL:=by
 induction l with
 |nil=>intro xs h;cases h;rfl
 |cons a l ih=>
  intro xs h;unfold tD at h
  split at h
  ·rename_i heq;cases heq
  ·rename_i heq
   injection heq with e1 e2
   subst e1;subst e2
   split at h
   ·rename_i hx;injection h with h;subst h;rw[ih hx];rfl
   ·cases h
  ·cases h
def DD(f:FuncId)(args:List PV):Option DV :=
 match args with
 |[.sl size nl rows]=>if Nat.beq f 136&&Nat.beq size 3 then match tD rows with
  |some l=>match sP l 300 with
   |some b=>some (.p (.bool b))
   |none=>none
  |none=>none
  else CK f args
 |[.sl size nl rows,.int .i64 d,.int .i64 t,.int .i64 m]=>if Nat.beq f 130&&(Nat.beq size 3&&((!nl||rows.isEmpty)&&(Nat.ble rows.length 1000&&decide (-1000000<=m)))) then match tD rows with
  |some l=>match GL l d t m 300 with
   |some b=>some (.p (.int .i64 b))
   |none=>none
  |none=>none
  else CK f args
 |[.sl size nl rows,.int .i64 t,.int .i64 m]=>if Nat.beq f 135&&(Nat.beq size 3&&((!nl||rows.isEmpty)&&Nat.ble rows.length 1000)) then match tD rows with
  |some l=>match yW l t m 300 with
   |some b=>some (.p (.int .i64 b))
   |none=>none
  |none=>none
  else CK f args
 |_=>CK f args
theorem uS(f:FuncId)(args:List PV)(d:DV)(h:DD f args=some d):aO Tryz.prog f args d:=by
 unfold DD at h
 split at h
 ·split at h
  ·rename_i e
   simp only[b6] at e;have e1:=Nat.eq_of_beq_eq_true e.1;have e2:=Nat.eq_of_beq_eq_true e.2;subst e1;subst e2
   split at h
   ·rename_i hx
    split at h
    ·rename_i hb
     injection h with h;subst h
     rw[nQ hx, <-gI hb];exact z8 _ _
    ·cases h
   ·cases h
  ·exact oZ _ _ _ h
 ·split at h
  ·rename_i e
   simp only[b6,Bool.or_eq_true,Bool.not_eq_true',decide_eq_true_eq,Nat.ble_eq] at e;obtain⟨e1,e2,e3,e4,e5⟩:=e;have e1:=Nat.eq_of_beq_eq_true e1;have e2:=Nat.eq_of_beq_eq_true e2;subst e1;subst e2
   split at h
   ·rename_i l hx
    split at h
    ·rename_i hb
     injection h with h;subst h
     have hr:=nQ hx;subst hr;rw[<-GI hb];refine U3 _ l (fun hn=>?_) (by simpa using e4) _ _ _ e5
     rcases e3 with e3|e3
     ·rw[hn] at e3;cases e3
     ·simpa using e3
    ·cases h
   ·cases h
  ·exact oZ _ _ _ h
 ·split at h
  ·rename_i e
   simp only[b6,Bool.or_eq_true,Bool.not_eq_true',Nat.ble_eq] at e;obtain⟨e1,e2,e3,e4⟩:=e;have e1:=Nat.eq_of_beq_eq_true e1;have e2:=Nat.eq_of_beq_eq_true e2;subst e1;subst e2
   split at h
   ·rename_i l hx
    split at h
    ·rename_i hb
     injection h with h;subst h
     have hr:=nQ hx;subst hr;rw[<-CL hb];refine IS _ l (fun hn=>?_) (by simpa using e4) _ _
     rcases e3 with e3|e3
     ·rw[hn] at e3;cases e3
     ·simpa using e3
    ·cases h
   ·cases h
  ·exact oZ _ _ _ h
 ·exact oZ _ _ _ h
open Go.RowKit
def PZ:Tbl:=[(155,KD),(52,W5),(86,XN),(185,LV),(50,VL),(82,WU),(51,WQ),(186,MI),(187,LR),(26,UV),(184,L6),(138,LN),(139,ON),(137,KQ),(80,XC),(81,VZ),(218,NE),(219,OD),(83,XI),(84,VC),(129,NX),(85,XK),(220,KV),(217,O0),(174,LM),(175,OL),(126,KS),(127,L3),(128,NF),(242,M1),(131,MS),(132,PK),(67,W9),(133,LD),(134,LI),(68,VA),(154,NT),(240,KK),(188,L8),(158,OB),(149,LY),(241,L9),(209,MF),(210,KU),(211,NI),(168,PJ),(169,MH),(170,MV),(171,MM),(97,X4),(172,LC),(173,ML),(98,VR),(183,PH),(177,MC),(249,KJ),(180,MD),(196,O1),(232,P2),(233,OP),(234,MO),(235,N0),(236,NQ),(198,MX),(208,MY),(216,KP),(215,MU),(213,OA),(250,O4),(214,O6),(247,P6),(239,OR),(237,NO),(238,ND),(251,NV),(248,LJ),(252,PB),(253,O5),(254,O7),(255,OM),(121,LB),(256,NP),(257,NN),(258,MB),(260,P0),(261,MQ),(262,UO),(263,OC),(166,ME),(264,N7),(265,PC),(266,NR),(267,OF),(271,MG),(272,QY),(273,NZ),(193,NK),(194,KH),(195,L5),(197,PD),(274,NJ),(275,KT),(279,NH),(280,MW),(281,UA),(283,LP),(221,LZ),(222,P7),(223,PI),(224,M8),(225,KZ),(284,N5),(290,P1),(293,LH),(302,UG),(307,LX),(244,PG),(319,LT)]
theorem H6:TblOK Tryz.prog PZ:=.cons R0 <| .cons k52 <| .cons YS <| .cons QJ <| .cons YU <| .cons Z9 <| .cons YV <| .cons RY <| .cons QH <| .cons XS <| .cons SJ <| .cons S5 <| .cons Q4 <| .cons JL <| .cons ZX <| .cons Y0 <| .cons PX <| .cons QQ <| .cons ZS <| .cons YN <| .cons LO <| .cons YF <| .cons RB <| .cons UP <| .cons E6 <| .cons I8 <| .cons PE <| .cons SH <| .cons QM <| .cons SX <| .cons SK <| .cons QW <| .cons ZT <| .cons T1 <| .cons TJ <| .cons YQ <| .cons SI <| .cons U0 <| .cons RK <| .cons QI <| .cons Q5 <| .cons TU <| .cons M4 <| .cons MK <| .cons NG <| .cons QF <| .cons KY <| .cons I7 <| .cons T6 <| .cons ZF <| .cons U1 <| .cons PS <| .cons Y7 <| .cons U2 <| .cons UD <| .cons TN <| .cons QP <| .cons O3 <| .cons LS <| .cons NM <| .cons M7 <| .cons KM <| .cons JN <| .cons S2 <| .cons SB <| .cons Q1 <| .cons TK <| .cons SL <| .cons RL <| .cons Q6 <| .cons OO <| .cons T7 <| .cons TQ <| .cons TS <| .cons Q3 <| .cons R6 <| .cons RH <| .cons QE <| .cons TP <| .cons R5 <| .cons UN <| .cons UF <| .cons SE <| .cons RX <| .cons TZ <| .cons TH <| .cons XT <| .cons U4 <| .cons UE <| .cons S0 <| .cons QO <| .cons RJ <| .cons PR <| .cons SZ <| .cons WA <| .cons QV <| .cons SA <| .cons QZ <| .cons TG <| .cons Q2 <| .cons R7 <| .cons R9 <| .cons QU <| .cons RD <| .cons WT <| .cons QG <| .cons Q8 <| .cons RW <| .cons TB <| .cons SP <| .cons PT <| .cons U5 <| .cons T5 <| .cons RO <| .cons XB <| .cons TM <| .cons RA <| .cons UJ <| .nil
def U8:FuncId->List DV->List Box->Option (List (Option Box)×DV):=fun _ _ _=>none
theorem uQ{P:Program}(f:FuncId)(a:List DV)(bs:List Box)(bs':List (Option Box))(d:DV)(h:U8 f a bs=some (bs',d)):aX P f a bs bs' d:=by cases h
def WO(n:Nat):Env:=oK DD U8 PZ n
theorem jS(n:Nat):(WO n).OK Tryz.prog:=lB uS uQ H6
end Go.Proofs.YtnjphclbpgajpaaGreatDoor.Vc
