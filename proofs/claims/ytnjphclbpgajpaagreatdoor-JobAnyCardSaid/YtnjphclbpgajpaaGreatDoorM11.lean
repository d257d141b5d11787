/- Part of a proof over a Go program: VcRun, Fn5, Cs, Cf, Cm, Ct, Cn, Cw, Cx, Cy, Cz, Cu, La, Ck2, Ckp. No condition. -/
import Derived.Test.YtnjphclbpgajpaaGreatDoorM08
import Derived.Test.YtnjphclbpgajpaaGreatDoorProg
import Derived.Test.YtnjphclbpgajpaaGreatDoorM10
import Derived.Test.YtnjphclbpgajpaaGreatDoorM09
set_option linter.unnecessarySimpa false
set_option linter.unusedSectionVars false
set_option linter.unusedSimpArgs false
set_option linter.unusedVariables false
set_option maxHeartbeats 4000000
set_option maxRecDepth 100000
namespace Go.Proofs.YtnjphclbpgajpaaGreatDoor.Vc
open Go.RowKit
variable {P:Program}
section force
variable {R:Type}
def a4A(n:Nat)(K:Nat->R):R:=match n with
 |0=>K 0
 |n+1=>K (n+1)
theorem a0g(n:Nat)(K:Nat->R):a4A n K=K n:=by cases n<;>rfl
def c0T(n:Int)(K:Int->R):R:=match n with
 | .ofNat m=>a4A m fun m=>K (.ofNat m)
 | .negSucc m=>a4A m fun m=>K (.negSucc m)
theorem b0l(n:Int)(K:Int->R):c0T n K=K n:=by cases n<;>simp[c0T,a0g]
def b2j(n:Bool)(K:Bool->R):R:=match n with
 |true=>K true
 |false=>K false
theorem a5b(n:Bool)(K:Bool->R):b2j n K=K n:=by cases n<;>rfl
def a3B{α:Type}:List α->(List α->R)->R
 |[],K=>K []
 |x ::xs,K=>a3B xs fun ys=>K (x ::ys)
theorem a2B{α:Type}(l:List α)(K:List α->R):a3B l K=K l:=by
 induction l generalizing K with
 |nil=>rfl
 |cons x xs ih=>simp only[a3B];rw[ih]
def b2N:List UInt8->(List UInt8->R)->R
 |[],K=>K []
 |x ::xs,K=>a4A x.toNat fun n=>b2N xs fun ys=>K (UInt8.ofNat n ::ys)
theorem b4u(l:List UInt8)(K:List UInt8->R):b2N l K=K l:=by
 induction l generalizing K with
 |nil=>rfl
 |cons x xs ih=>simp only[b2N,a0g];rw[ih];simp
def c3V(s:ByteArray)(K:ByteArray->R):R:=b2N s.data.toList fun l=>K ⟨⟨l⟩⟩
theorem b9f(s:ByteArray)(K:ByteArray->R):c3V s K=K s:=by
 unfold c3V;rw[b4u]
def pvF(x:PV)(K:PV->R):R:=match x with
 | .int k n=>c0T n fun n=>K (.int k n)
 | .bool b=>b2j b fun b=>K (.bool b)
 | .str s=>c3V s fun s=>K (.str s)
 | .atom v=>K (.atom v)
 | .agg cs=>a3B cs fun cs=>K (.agg cs)
 | .sl n b rows=>b2j b fun b=>a3B rows fun rows=>K (.sl n b rows)
 | .fn f caps=>a3B caps fun caps=>K (.fn f caps)
 | .ptr cells off=>a3B cells fun cells=>a4A off fun off=>K (.ptr cells off)
theorem b7h(x:PV)(K:PV->R):pvF x K=K x:=by cases x<;>simp[pvF,b0l,a5b,b9f,a2B,a0g]
def dvF(v:DV)(K:DV->R):R:=match v with
 | .top=>K .top
 | .p x=>pvF x fun x=>K (.p x)
 | .ow a b c=>b2j b fun b=>a3B c fun c=>K (.ow a b c)
 | .tup ds=>a3B ds fun ds=>K (.tup ds)
 | .addr a b c d=>a4A a fun a=>a4A c fun c=>a4A d fun d=>K (.addr a b c d)
 | .bs a b c d e=>a4A a fun a=>a4A d fun d=>a4A e fun e=>K (.bs a b c d e)
 | .fn f cs=>a3B cs fun cs=>K (.fn f cs)
 | .mh k=>a4A k fun k=>K (.mh k)
 | .ob T=>K (.ob T)
 | .pk o=>K (.pk o)
 | .agd cs=>K (.agd cs)
theorem a6x(v:DV)(K:DV->R):dvF v K=K v:=by cases v<;>simp[dvF,b7h,a5b,a2B,a0g]
def b6o:List (List DV)->(List (List DV)->R)->R
 |[],K=>K []
 |x ::xs,K=>a3B x fun x=>b6o xs fun ys=>K (x ::ys)
theorem b6c(l:List (List DV))(K:List (List DV)->R):b6o l K=K l:=by
 induction l generalizing K with
 |nil=>rfl
 |cons x xs ih=>simp only[b6o,a2B];rw[ih]
def b3Z(b:Option Box)(K:Option Box->R):R:=match b with
 |none=>K none
 |some ⟨l,s,rows,o⟩=>b2j l fun l=>b6o rows fun rows=>K (some ⟨l,s,rows,o⟩)
theorem a2D(b:Option Box)(K:Option Box->R):b3Z b K=K b:=by
 cases b with
 |none=>rfl
 |some b=>cases b;simp[b3Z,a5b,b6c]
def b3A{α:Type}:List α->Nat -> α->(List α->R)->R
 |[],_,_,K=>K []
 |_ ::xs,0,v,K=>K (v ::xs)
 |x ::xs,n+1,v,K=>b3A xs n v fun ys=>K (x ::ys)
theorem a3t{α:Type}(l:List α)(n:Nat)(v : α)(K:List α->R):b3A l n v K=K (a0I l n v):=by
 induction l generalizing n K with
 |nil=>rfl
 |cons x xs ih=>cases n with
  |zero=>rfl
  |succ n=>simp only[b3A,a0I];rw[ih]
end force
def a8h(k:IntKind)(n:Int):Int:=match k with
 | .i64=>bif decide (-9223372036854775808<=n)&&decide (n<=9223372036854775807) then n else k.wrap n
 |k=>k.wrap n
theorem a8N(k:IntKind)(n:Int):a8h k n=k.wrap n:=by
 unfold a8h
 split
 ·cases h:(decide (-9223372036854775808<=n)&&decide (n<=9223372036854775807))
  ·rfl
  ·simp only[bAt,decide_eq_true_eq] at h
   exact(a0T h.1 h.2).symm
 ·rfl
def a0F{R:Type}(A:Prop)[Decidable A](K:Option R):Option R:=if A then K else none
theorem a0B{R:Type}{A:Prop}[Decidable A]{K:Option R}{r:R}(h:a0F A K=some r):A/\K=some r:=by
 unfold a0F at h
 split at h
 ·exact⟨by assumption,h⟩
 ·cases h
variable {R:Type}
structure Env where
 call:FuncId->List PV->Option DV
 callM:FuncId->Nat->List DV->List (List DV)->Option (List (List DV)×DV)
 callO:FuncId->List DV->List Box->Option (List (Option Box)×DV)
structure Env.OK (P:Program) (E:Env):Prop where
 call:∀f a d,E.call f a=some d->a0A P f a d
 callM:∀f n a rows rows' d,E.callM f n a rows=some (rows',d)->a4f P f n a rows rows' d
 callO:∀f a bs bs' d,E.callO f a bs=some (bs',d)->a1Y P f a bs bs' d
def c4Y(op:BinOp)(x y:PV)(K:PV->Option R):Option R :=
 match x,y with
 | .int k a,.int k' b=>match op with
  | .add=>a0F (k=k') (K (.int k (a8h k (a+b))))
  | .sub=>a0F (k=k') (K (.int k (a8h k (a-b))))
  | .mul=>a0F (k=k') (K (.int k (a8h k (a*b))))
  | .quo=>a0F (k=k') (a0F (b≠0) (K (.int k (a8h k (a.tdiv b)))))
  | .rem=>a0F (k=k') (a0F (b≠0) (K (.int k (a.tmod b))))
  | .and=>a0F (k=k') (K (.int k (a2W .and k a b)))
  | .or=>a0F (k=k') (K (.int k (a2W .or k a b)))
  | .xor=>a0F (k=k') (K (.int k (a2W .xor k a b)))
  | .andNot=>a0F (k=k') (K (.int k (a2W .andNot k a b)))
  | .shl=>a0F (0<=b) (K (.int k (a8h k (a*2 ^ (min b.toNat k.bits)))))
  | .shr=>a0F (0<=b) (K (.int k (a.fdiv (2 ^ (min b.toNat k.bits)))))
  | .eql=>a0F (k=k') (K (.bool (a ==b)))
  | .neq=>a0F (k=k') (K (.bool (a !=b)))
  | .lss=>a0F (k=k') (K (.bool (decide (a<b))))
  | .leq=>a0F (k=k') (K (.bool (decide (a<=b))))
  | .gtr=>a0F (k=k') (K (.bool (decide (a>b))))
  | .geq=>a0F (k=k') (K (.bool (decide (a≥b))))
 | .str a,.str b=>match op with
  | .eql=>K (.bool (a.toList ==b.toList))
  | .neq=>K (.bool !(a.toList ==b.toList))
  | .add=>a0F (a.size+b.size<=140737488355328) (K (.str (a++b)))
  |_=>none
 |_,_=>none
theorem b8L{op:BinOp}{x y:PV}{K:PV->Option R}{r:R}(h:c4Y op x y K=some r):a4y op x y fun z=>K z=some r:=by
 unfold c4Y at h
 split at h
 ·cases op<;>simp only[a8N] at h<;>simp only[a4y]<;>first
   |exact a0B h
   |(obtain⟨h1,h2⟩:=a0B h;obtain⟨h2,h3⟩:=a0B h2;exact⟨h1,h2,h3⟩)
 ·cases op<;>simp only[a4y]<;>first|exact h|exact a0B h|(simp at h)
 ·cases h
def b4e(cells:List PV)(off n:Nat)(isAgg:Bool)(K:PV->Option R):Option R :=
 if isAgg then a0F (off+n<=cells.length) (K (.agg (a8y cells off n)))
 else match cells[off]? with
  |some c=>K c
  |none=>none
theorem a8e{cells:List PV}{off n:Nat}{isAgg:Bool}{K:PV->Option R}{r:R}(h:b4e cells off n isAgg K=some r):a3g cells off n isAgg fun x=>K x=some r:=by
 unfold b4e at h;unfold a3g
 split at h
 ·rename_i hi;rw[if_pos hi];exact a0B h
 ·rename_i hi
  rw[if_neg hi]
  split at h
  ·exact⟨_,by assumption,h⟩
  ·cases h
def b0b:List Nat->(List Nat->Option R)->Option R
 |[],K=>K []
 |x ::xs,K=>a4A x fun x=>b0b xs fun ys=>K (x ::ys)
theorem b1j(l:List Nat)(K:List Nat->Option R):b0b l K=K l:=by
 induction l generalizing K with
 |nil=>rfl
 |cons x xs ih=>simp only[b0b,a0g];rw[ih]
def a4J(b:List (Option Box)):Nat->List Nat->List Nat->(List Nat->Option R)->Option R
 |0,_,ks,K=>K ks
 |_+1,[],ks,K=>K ks
 |n+1,k ::ws,ks,K=>if a8i k ks then a4J b n ws ks K else match a4B b k with
  |some bx=>if bx.live then b0b (ks++[k]) fun ks=>bif a0h bx.rows then a4J b n ws ks K else b0b (a6z bx.rows ws) fun ws=>a4J b n ws ks K else a4J b n ws ks K
  |none=>a4J b n ws ks K
theorem a1k(b:List (Option Box)):∀(n:Nat) (ws ks:List Nat) (K:List Nat->Option R),a4J b n ws ks K=K (a1Z b n ws ks)
 |0,_,_,_=>rfl
 |_+1,[],_,_=>rfl
 |n+1,k ::ws,ks,K=>by
  simp only[a4J,a1Z,b1j]
  by_cases hk:a8i k ks=true
  ·rw[if_pos hk,if_pos hk];exact a1k b n ws ks K
  ·rw[if_neg hk,if_neg hk]
   cases a4B b k with
   |none=>exact a1k b n ws ks K
   |some bx=>
    simp only
    by_cases hl:bx.live=true
    ·rw[if_pos hl,if_pos hl]
     cases a0h bx.rows
     ·exact a1k b n _ _ K
     ·exact a1k b n _ _ K
    ·rw[if_neg hl,if_neg hl];exact a1k b n ws ks K
def a8w:List CapV->(List CapV->Option R)->Option R
 |[],K=>K []
 | .p x ::cs,K=>a8w cs fun l=>K (.p x ::l)
 | .addr k sz r o ::cs,K=>a4A k fun k=>a8w cs fun l=>K (.addr k sz r o ::l)
theorem b5Q(l:List CapV)(K:List CapV->Option R):a8w l K=K l:=by
 induction l generalizing K with
 |nil=>rfl
 |cons x xs ih=>cases x<;>simp only[a8w,a0g]<;>rw[ih]
def a5H(ν:Nat->Option Nat)(d:DV)(K:DV->Option R):Option R:=match d with
 | .p x=>K (.p x)
 | .ow size nl rows=>K (.p (.sl size nl rows))
 | .addr k sz r o=>match ν k with
  |some k'=>a4A k' fun k'=>K (.addr k' sz r o)
  |none=>K .top
 | .bs k sz ag lo n=>match ν k with
  |some k'=>a4A k' fun k'=>K (.bs k' sz ag lo n)
  |none=>K .top
 | .mh k=>match ν k with
  |some k'=>a4A k' fun k'=>K (.mh k')
  |none=>K .top
 | .fn f caps=>match a9D ν caps with
  |some l=>a8w l fun l=>K (.fn f l)
  |none=>K .top
 | .ob T=>K (.ob T)
 |_=>K .top
theorem a5p(ν:Nat->Option Nat)(d:DV)(K:DV->Option R):a5H ν d K=K (a0x ν d):=by
 cases d with
 |addr k sz r o=>simp only[a5H,a0x];split<;>(rename_i heq;simp only[heq,a0g])
 |bs k sz ag lo n=>simp only[a5H,a0x];split<;>(rename_i heq;simp only[heq,a0g])
 |mh k=>simp only[a5H,a0x];split<;>(rename_i heq;simp only[heq,a0g])
 |fn f caps=>simp only[a5H,a0x];split<;>(rename_i heq;simp only[heq,b5Q])
 |_=>rfl
def a9w(ν:Nat->Option Nat):List DV->(List DV->Option R)->Option R
 |[],K=>K []
 |d ::ds,K=>a5H ν d fun d=>a9w ν ds fun l=>K (d ::l)
theorem b0E(ν:Nat->Option Nat)(l:List DV)(K:List DV->Option R):a9w ν l K=K (b0Q ν l):=by
 induction l generalizing K with
 |nil=>rfl
 |cons x xs ih=>simp only[a9w,b0Q,a5p];rw[ih]
def a5j(ν:Nat->Option Nat):List (List DV)->(List (List DV)->Option R)->Option R
 |[],K=>K []
 |d ::ds,K=>a9w ν d fun d=>a5j ν ds fun l=>K (d ::l)
theorem b0S(ν:Nat->Option Nat)(l:List (List DV))(K:List (List DV)->Option R):a5j ν l K=K (a4z ν l):=by
 induction l generalizing K with
 |nil=>rfl
 |cons x xs ih=>simp only[a5j,a4z,b0E];rw[ih]
def a4l(ν:Nat->Option Nat)(rows:List (List DV))(K:List (List DV)->Option R):Option R:=bif a0h rows then K rows else a5j ν rows K
theorem a3T(ν:Nat->Option Nat)(l:List (List DV))(K:List (List DV)->Option R):a4l ν l K=K (a1M ν l):=by
 unfold a4l a1M;cases a0h l
 ·exact b0S ν l K
 ·rfl
def b6X(b:List (Option Box))(ν:Nat->Option Nat):List DV->(List DV->Option R)->Option R
 |[],K=>K []
 |d ::ds,K=>b6X b ν ds fun xs=>match d.frz b with
  |some x=>pvF x fun x=>K (.p x ::xs)
  |none=>if d.isRefF then a5H ν d fun d=>K (d ::xs) else none
theorem b2H{b:List (Option Box)}{ν:Nat->Option Nat}{r:R}:∀{l:List DV} {K:List DV->Option R},b6X b ν l K=some r->∃xs,a6a b ν l=some xs/\K xs=some r
 |[],K,h=>⟨[],rfl,h⟩
 |d ::ds,K,h=>by
  simp only[b6X] at h;obtain⟨xs,h1,h2⟩:=b2H h;simp only[a6a,h1]
  split at h2
  ·rename_i x hx;rw[b7h] at h2;rw[hx];exact⟨_,rfl,h2⟩
  ·rename_i hx
   rw[hx]
   split at h2
   ·rename_i hr;rw[a5p] at h2;rw[if_pos hr];exact⟨_,rfl,h2⟩
   ·cases h2
def b7n(b:List (Option Box))(ν:Nat->Option Nat)(k:Nat)(K:Box->Option R):Option R :=
 match a4B b k with
 |some bx=>a4l ν bx.rows fun rows=>a4A bx.size fun sz=>K ⟨true,sz,rows,true⟩
 |none=>K ⟨true,1,[],true⟩
def b2K(b:List (Option Box))(ν:Nat->Option Nat):List Nat->(List Box->Option R)->Option R
 |[],K=>K []
 |k ::ks,K=>b7n b ν k fun bx=>b2K b ν ks fun l=>K (bx ::l)
theorem b3d(b:List (Option Box))(ν:Nat->Option Nat)(l:List Nat)(K:List Box->Option R):b2K b ν l K=K (a5O b ν l):=by
 induction l generalizing K with
 |nil=>rfl
 |cons x xs ih=>
  simp only[b2K,a5O,b7n,b5M]
  split<;>(rename_i heq;simp only[heq,a3T,a0g];rw[ih])
def b2G(ν:Nat->Option Nat)(old:Bool)(x:Option Box)(K:Option Box->Option R):Option R:=match x with
 |some bx=>a4l ν bx.rows fun rows=>a4A bx.size fun sz=>b2j old fun old=>K (some ⟨true,sz,rows,old⟩)
 |none=>K none
theorem a9I(ν:Nat->Option Nat)(old:Bool)(x:Option Box)(K:Option Box->Option R):b2G ν old x K=K (a8g ν old x):=by
 cases x with
 |none=>rfl
 |some x=>simp only[b2G,a8g,a3T,a0g,a5b]
def b5p(ν:Nat->Option Nat):List (Option Box)->(List (Option Box)->Option R)->Option R
 |[],K=>K []
 |x ::l,K=>b2G ν false x fun x=>b5p ν l fun l=>K (x ::l)
theorem b6v(ν:Nat->Option Nat)(l:List (Option Box))(K:List (Option Box)->Option R):b5p ν l K=K (b5f ν l):=by
 induction l generalizing K with
 |nil=>rfl
 |cons x xs ih=>simp only[b5p,b5f,a9I];rw[ih]
def a9k(ν:Nat->Option Nat):List Nat->List (Option Box)->List (Option Box)->(List (Option Box)->Option R)->Option R
 |[],l,b,K=>b5p ν l fun l=>a3B (b++l) K
 |k ::ks,x ::l,b,K=>b2G ν (b2Z b k) x fun x=>b3A b k x fun b=>a9k ν ks l b K
 |_ ::_,[],b,K=>K b
theorem a9x(ν:Nat->Option Nat):∀(ks:List Nat) (l b:List (Option Box)) (K:List (Option Box)->Option R),a9k ν ks l b K=K (a2r ν ks l b)
 |[],l,b,K=>by simp only[a9k,a2r,b6v,a2B]
 |k ::ks,x ::l,b,K=>by simp only[a9k,a2r,a9I,a3t];exact a9x ν ks l _ K
 |_ ::_,[],b,K=>rfl
def b6Z(ν:Nat->Option Nat)(r:DV)(K:DV->Option R):Option R:=if r.plain then K r else a5H ν r K
theorem b2C(ν:Nat->Option Nat)(r:DV)(K:DV->Option R):b6Z ν r K=K (b3y ν r):=by
 unfold b6Z b3y;split<;>first|simp only[a5p]|rfl
def byB:List UInt8->List UInt8->Bool
 |[],[]=>true
 |a ::l,b ::m=>decide (a=b)&&byB l m
 |_,_=>false
theorem b7r:∀{l m:List UInt8},byB l m=true->l=m
 |[],[],_=>rfl
 |a ::l,b ::m,h=>by simp only[byB,bAt,decide_eq_true_eq] at h;rw[h.1,b7r h.2]
 |[],_ ::_,h=>by simp[byB] at h
 |_ ::_,[],h=>by simp[byB] at h
def atB(a b:Value):Bool:=match a,b with
 | .pointer none,.pointer none=>true
 |_,_=>false
theorem c1H{a b:Value}(h:atB a b=true):a=b:=by
 unfold atB at h
 split at h
 ·rfl
 ·cases h
mutual
def pvB:PV->PV->Bool
 | .int k n,.int k' n'=>decide (k=k')&&decide (n=n')
 | .bool a,.bool b=>decide (a=b)
 | .str s,.str t=>byB s.data.toList t.data.toList
 | .agg a,.agg b=>b3X a b
 | .sl n x a,.sl n' x' b=>decide (n=n')&&(decide (x=x')&&b3X a b)
 | .fn f a,.fn g b=>decide (f=g)&&b3X a b
 | .ptr a o,.ptr b o'=>decide (o=o')&&b3X a b
 | .atom v,.atom u=>atB v u
 |_,_=>false
def b3X:List PV->List PV->Bool
 |[],[]=>true
 |a ::l,b ::m=>pvB a b&&b3X l m
 |_,_=>false
end
mutual
theorem a9P:∀{a b:PV},pvB a b=true->a=b
 | .int k n,b,h=>by cases b<;>simp[pvB] at h;rw[h.1,h.2]
 | .bool x,b,h=>by cases b<;>simp[pvB] at h;rw[h]
 | .str s,b,h=>by
  cases b<;>simp only[pvB,Bool.false_eq_true] at h
  rw[b1Y (b7r h)]
 | .agg l,b,h=>by cases b<;>simp only[pvB,Bool.false_eq_true] at h;rw[a3A h]
 | .sl n x l,b,h=>by
  cases b<;>simp only[pvB,Bool.false_eq_true,bAt,decide_eq_true_eq] at h
  rw[h.1,h.2.1,a3A h.2.2]
 | .fn f l,b,h=>by
  cases b<;>simp only[pvB,Bool.false_eq_true,bAt,decide_eq_true_eq] at h
  rw[h.1,a3A h.2]
 | .ptr l o,b,h=>by
  cases b<;>simp only[pvB,Bool.false_eq_true,bAt,decide_eq_true_eq] at h
  rw[h.1,a3A h.2]
 | .atom v,b,h=>by
  cases b<;>simp only[pvB,Bool.false_eq_true] at h
  rw[c1H h]
theorem a3A:∀{l m:List PV},b3X l m=true->l=m
 |[],[],_=>rfl
 |a ::l,b ::m,h=>by simp only[b3X,bAt] at h;rw[a9P h.1,a3A h.2]
 |[],_ ::_,h=>by simp[b3X] at h
 |_ ::_,[],h=>by simp[b3X] at h
end
def b1r{α:Type}(f : α -> α->Bool):List α->List α->Bool
 |[],[]=>true
 |a ::l,b ::m=>f a b&&b1r f l m
 |_,_=>false
theorem a2j{α:Type}{f : α -> α->Bool}(hf:∀a b,f a b=true->a=b):∀{l m:List α},b1r f l m=true->l=m
 |[],[],_=>rfl
 |a ::l,b ::m,h=>by simp only[b1r,bAt] at h;rw[hf _ _ h.1,a2j hf h.2]
 |[],_ ::_,h=>by simp[b1r] at h
 |_ ::_,[],h=>by simp[b1r] at h
def c4m:CapV->CapV->Bool
 | .p x,.p y=>pvB x y
 | .addr k z r o,.addr k' z' r' o'=>decide (k=k')&&(decide (z=z')&&(decide (r=r')&&decide (o=o')))
 |_,_=>false
theorem b9R(a b:CapV)(h:c4m a b=true):a=b:=by
 cases a<;>cases b<;>simp only[c4m,Bool.false_eq_true,bAt,decide_eq_true_eq] at h
 ·rw[a9P h]
 ·rw[h.1,h.2.1,h.2.2.1,h.2.2.2]
def tvB:TV->TV->Bool
 | .p x,.p y=>pvB x y
 | .ow n x l,.ow n' x' m=>decide (n=n')&&(decide (x=x')&&b3X l m)
 |_,_=>false
theorem c0N(a b:TV)(h:tvB a b=true):a=b:=by
 cases a<;>cases b<;>simp only[tvB,Bool.false_eq_true,bAt,decide_eq_true_eq] at h
 ·rw[a9P h]
 ·rw[h.1,h.2.1,a3A h.2.2]
def rfB:RfV->RfV->Bool
 | .p x,.p y=>pvB x y
 | .addr k z r o,.addr k' z' r' o'=>decide (k=k')&&(decide (z=z')&&(decide (r=r')&&decide (o=o')))
 | .bs k z g l n,.bs k' z' g' l' n'=>decide (k=k')&&(decide (z=z')&&(decide (g=g')&&(decide (l=l')&&decide (n=n'))))
 | .mh k,.mh k'=>decide (k=k')
 |_,_=>false
theorem c0t(a b:RfV)(h:rfB a b=true):a=b:=by
 cases a<;>cases b<;>simp only[rfB,Bool.false_eq_true,bAt,decide_eq_true_eq] at h
 ·rw[a9P h]
 ·rw[h.1,h.2.1,h.2.2.1,h.2.2.2]
 ·rw[h.1,h.2.1,h.2.2.1,h.2.2.2.1,h.2.2.2.2]
 ·rw[h]
def obB:Ob->Ob->Bool
 | .ch c l,.ch c' m=>decide (c=c')&&b3X l m
 |_,_=>false
theorem c1B(a b:Ob)(h:obB a b=true):a=b:=by
 cases a<;>cases b<;>simp only[obB,Bool.false_eq_true,bAt,decide_eq_true_eq] at h
 rw[h.1,a3A h.2]
def dvB:DV->DV->Bool
 | .top,.top=>true
 | .p x,.p y=>pvB x y
 | .ow n x l,.ow n' x' m=>decide (n=n')&&(decide (x=x')&&b3X l m)
 | .tup l,.tup m=>b1r tvB l m
 | .addr k z r o,.addr k' z' r' o'=>decide (k=k')&&(decide (z=z')&&(decide (r=r')&&decide (o=o')))
 | .bs k z g l n,.bs k' z' g' l' n'=>decide (k=k')&&(decide (z=z')&&(decide (g=g')&&(decide (l=l')&&decide (n=n'))))
 | .fn f l,.fn g m=>decide (f=g)&&b1r c4m l m
 | .mh k,.mh k'=>decide (k=k')
 | .agd l,.agd m=>b1r rfB l m
 | .ob x,.ob y=>obB x y
 |_,_=>false
theorem b7l(a b:DV)(h:dvB a b=true):a=b:=by
 cases a<;>cases b<;>simp only[dvB,Bool.false_eq_true,bAt,decide_eq_true_eq] at h
 ·rfl
 ·rw[a9P h]
 ·rw[h.1,h.2.1,a3A h.2.2]
 ·rw[a2j c0N h]
 ·rw[h.1,h.2.1,h.2.2.1,h.2.2.2]
 ·rw[h.1,h.2.1,h.2.2.1,h.2.2.2.1,h.2.2.2.2]
 ·rw[h.1,a2j b9R h.2]
 ·rw[h]
 ·rw[c1B _ _ h]
 ·rw[a2j c0t h]
def c0Y:Option Box->Option Box->Bool
 |none,none=>true
 |some x,some y=>decide (x.live=y.live)&&(decide (x.size=y.size)&&(decide (x.old=y.old)&&b1r (b1r dvB) x.rows y.rows))
 |_,_=>false
theorem b4b(a b:Option Box)(h:c0Y a b=true):a=b:=by
 cases a<;>cases b<;>simp only[c0Y,Bool.false_eq_true,bAt,decide_eq_true_eq] at h
 ·rfl
 ·rename_i x y
  cases x;cases y
  simp only at h;rw[h.1,h.2.1,h.2.2.1,a2j (fun _ _ h=>a2j b7l h) h.2.2.2]
def b4f(E:Env)(f:FuncId)(gr:Bool)(xs:List DV)(b:List (Option Box))(K:DV->List (Option Box)->Option R):Option R :=
 a4J b 4000 (a3o b xs) [] fun ks=>b6X b (nuO ks) xs fun args=>b2K b (nuO ks) ks fun bs=>match E.callO f args bs with
  |some (bs',r)=>if gr||Nat.beq bs'.length ks.length then a4A b.length fun L=>a4A bs'.length fun m=>a9k (nuB ks L m) ks bs' b fun b'=>b6Z (nuB ks L m) r fun r'=>K r' b' else none
  |none=>none
theorem a8m{E:Env}(hc:E.OK P){f:FuncId}{gr:Bool}{xs:List DV}{b:List (Option Box)}{K:DV->List (Option Box)->Option R}{r:R}(h:b4f E f gr xs b K=some r):callO P f gr xs b fun v b'=>K v b'=some r:=by
 unfold b4f at h;rw[a1k] at h;obtain⟨args,h1,h2⟩:=b2H h;rw[b3d] at h2;unfold callO ksO;rw[h1];simp only
 split at h2
 ·rename_i bs' r' hE
  split at h2
  ·rename_i hg
   simp only[a0g,a9x,b2C] at h2;refine⟨bs',r',hc.callO _ _ _ _ _ hE,?_,h2⟩;simp only[Bool.or_eq_true] at hg;rcases hg with hg|hg
   ·exact .inl hg
   ·exact .inr (Nat.eq_of_beq_eq_true hg)
  ·cases h2
 ·cases h2
def c0S:List DV->(List DV->Option R)->Option R
 |[],K=>K []
 |x ::xs,K=>dvF x fun x=>c0S xs fun l=>K (x ::l)
theorem b3j(l:List DV)(K:List DV->Option R):c0S l K=K l:=by
 induction l generalizing K with
 |nil=>rfl
 |cons x xs ih=>simp only[c0S,a6x];rw[ih]
def a5G:List (List DV)->(List (List DV)->Option R)->Option R
 |[],K=>K []
 |x ::xs,K=>c0S x fun x=>a5G xs fun l=>K (x ::l)
theorem a2t(l:List (List DV))(K:List (List DV)->Option R):a5G l K=K l:=by
 induction l generalizing K with
 |nil=>rfl
 |cons x xs ih=>simp only[a5G,b3j];rw[ih]
def a5Q(E:Env)(κ:KO)(vs:List DV)(b:List (Option Box))(K:DV->List (Option Box)->Option R):Option R :=
 match κ with
 | .ldo _ _=>none
 | .callo f gr=>b4f E f gr vs b K
 | .callr f=>b4f E f false vs b fun v b'=>bif b1r c0Y b' b then K v b else none
 | .callvo gr=>match vs with
  | .fn f caps ::xs=>b4f E f gr (xs++a6n caps) b K
  |_=>none
 | .bldo zero offs=>c0S vs fun vs=>match a7r (a4p zero) offs vs with
  |some cs=>a3B cs fun cs=>K (.agd cs) b
  |none=>none
 | .eqp neq=>match vs with
  |[.addr _ _ _ _,.p (.atom (.pointer none))]=>K (.p (.bool neq)) b
  |[.p (.atom (.pointer none)),.p (.atom (.pointer none))]=>K (.p (.bool (!neq))) b
  |[.p (.ptr _ _),.p (.atom (.pointer none))]=>K (.p (.bool neq)) b
  |_=>none
 | .appd size bytes ag=>match vs with
  |[.p (.sl sz true []),y]=>match a3C b size y with
   |some new=>a0F (sz=size) (a0F (new.length*bytes<=140737488355328) (a0F (new.length<=140737488355328) (match new with
    |[]=>K (.p (.sl size true [])) b
    |_ ::_=>a4A b.length fun L=>a4A new.length fun n=>a5G new fun rows=>K (.bs L size ag 0 n) (b++[some ⟨true,size,rows,false⟩]))))
   |none=>none
  |[.bs k sz _ lo n,y]=>match a3C b size y with
   |some new=>match a1A b k with
    |some bx=>a0F (bx.live=true) (a0F (sz=size) (a0F (bx.size=size) (a0F (lo=0) (a0F (n=bx.rows.length) (a0F ((bx.rows.length+new.length)*bytes<=140737488355328) (a0F (bx.rows.length+new.length<=140737488355328)
      (a4A b.length fun L=>a4A (bx.rows.length+new.length) fun n=>a5G (a0N bx.rows++new) fun rows=>K (.bs L size ag 0 n) (a0I b k none++[some ⟨true,size,rows,false⟩])))))))) 
    |none=>none
   |none=>none
  |_=>none
 | .bsld size n ag=>a0F (size=1) (a0F (vs.length=n) (a0F (n≠0) (a0F ((vs.all DV.isRef)=true) (a0F ((vs.all (ltD b.length))=true) (a4A b.length fun L=>a5G (vs.map fun x=>[x]) fun rows=>K (.bs L 1 ag 0 n) (b++[some ⟨true,1,rows,false⟩]))))))
 | .slx size=>match vs with
  |[.bs k sz ag lo n,.p (.int _ h)]=>a0F (sz=size) (a0F (lo=0) (a0F (0<=h) (a0F (h<=n) (match a1A b k with
   |some bx=>a0F (sz=bx.size) (a0F (bx.live=true) (a0F (h<=bx.rows.length) (b3Z (some { bx with rows:=bx.rows.take h.toNat }) fun bx=>a4A h.toNat fun n=>K (.bs k sz ag 0 n) (a0I b k bx))))
   |none=>none))))
  |[.p (.sl sz nl rows),.p (.int _ h)]=>a0F (sz=size\/rows.isEmpty=true) (a0F (0<=h) (a0F (h<=rows.length) (K (.p (.sl sz nl (rows.take h.toNat))) b)))
  |_=>none
 | .lookx q zero ok=>match vs with
  |[.mh k,.p x]=>a0F (a3E q x=true) (match a3h b k with
   |some bx=>match a8z q x bx.rows with
    |some (some d)=>if ok then match d with
      | .p v=>K (.tup [.p v,.p (.bool true)]) b
      |_=>none
     else K d.copy b
    |some none=>K (if ok then .tup [.p zero,.p (.bool false)] else .p zero) b
    |none=>none
   |none=>none)
  |_=>none
 | .mupx q=>match vs with
  |[.mh k,.p x,d]=>a0F (a3E q x=true) (dvF d fun d=>a0F ((d.isRef||d.isP)=true) (match a3h b k with
   |some bx=>match b7q q x d bx.rows with
    |some rows=>a5G rows fun rows=>K .top (a0I b k (some { bx with rows:=rows }))
    |none=>none
   |none=>none))
  |_=>none
 | .mdel q=>match vs with
  |[.mh k,.p x]=>a0F (a3E q x=true) (match a3h b k with
   |some bx=>match b7f q x bx.rows with
    |some rows=>a5G (a0N rows) fun rows=>K .top (a0I b k (some { bx with rows:=rows }))
    |none=>none
   |none=>none)
  |_=>none
 | .mpe _=>none
 | .ents=>none
 | .lda _=>none
 | .mlen=>match vs with
  |[.mh k]=>match a3h b k with
   |some bx=>K (.p (.int .i64 bx.rows.length)) b
   |none=>none
  |_=>none
theorem b6Y{E:Env}(hc:E.OK P){κ:KO}{vs:List DV}{b:List (Option Box)}{K:DV->List (Option Box)->Option R}{r:R}
  (h:a5Q E κ vs b K=some r):a0t P κ vs b fun v b'=>K v b'=some r:=by
 cases κ with
 |ldo j ag=>cases h
 |callo f gr=>exact a8m hc h
 |callr f=>
  show callO P f false vs b fun v b'=>b'=b/\K v b=some r
  refine a1F (fun v b' hb=>?_) (a8m hc h)
  cases he:b1r c0Y b' b with
  |false=>rw[he] at hb;cases hb
  |true=>rw[he] at hb;exact⟨a2j b4b he,hb⟩
 |callvo gr=>
  simp only[a5Q] at h;split at h
  ·exact a8m hc h
  ·cases h
 |bldo zero offs=>
  simp only[a5Q,b3j] at h;simp only[a0t]
  split at h
  ·rename_i hf;rw[hf];rw[a2B] at h;exact h
  ·cases h
 |eqp neq=>
  simp only[a5Q] at h;split at h
  ·exact h
  ·exact h
  ·exact h
  ·cases h
 |appd size bytes ag=>
  simp only[a5Q] at h;split at h
  ·split at h
   ·rename_i new hn
    obtain⟨h1,h⟩:=a0B h;obtain⟨h2,h⟩:=a0B h;obtain⟨h3,h⟩:=a0B h;simp only[a0t,hn];have h3':=Nat.le_trans h3 (by decide:140737488355328<=maxLen)
    split at h
    ·exact⟨h1,h2,h3',fun _=>h,fun e=>absurd rfl e⟩
    ·simp only[a0g,a2t] at h
     exact⟨h1,h2,h3',fun e=>(by cases e),fun _=>h⟩
   ·cases h
  ·split at h
   ·rename_i new hn
    split at h
    ·rename_i bx hb
     obtain⟨h1,h⟩:=a0B h;obtain⟨h2,h⟩:=a0B h;obtain⟨h3,h⟩:=a0B h;obtain⟨h4,h⟩:=a0B h;obtain⟨h5,h⟩:=a0B h;obtain⟨h6,h⟩:=a0B h;obtain⟨h7,h⟩:=a0B h;simp only[a0g,a2t] at h;simp only[a0t,hn,hb];exact⟨h1,h2,h3,h4,h5,h6,Nat.le_trans h7 (by decide:140737488355328<=maxLen),h⟩
    ·cases h
   ·cases h
  ·cases h
 |bsld size n ag=>
  simp only[a5Q] at h;obtain⟨h1,h⟩:=a0B h;obtain⟨h2,h⟩:=a0B h;obtain⟨h3,h⟩:=a0B h;obtain⟨h4,h⟩:=a0B h;obtain⟨h5,h⟩:=a0B h;simp only[a0g,a2t] at h;simp only[a0t];exact⟨h1,h2,h3,h4,h5,h⟩
 |slx size=>
  simp only[a5Q] at h;split at h
  ·obtain⟨h1,h⟩:=a0B h;obtain⟨h2,h⟩:=a0B h;obtain⟨h3,h⟩:=a0B h;obtain⟨h4,h⟩:=a0B h
   split at h
   ·rename_i bx hb
    obtain⟨h5,h⟩:=a0B h;obtain⟨h6,h⟩:=a0B h;obtain⟨h7,h⟩:=a0B h;simp only[a0g,a2D] at h;simp only[a0t,hb];exact⟨h1,h2,h3,h4,h5,h6,h7,h⟩
   ·cases h
  ·obtain⟨h1,h⟩:=a0B h;obtain⟨h2,h⟩:=a0B h;obtain⟨h3,h⟩:=a0B h
   simp only[a0t];exact⟨by simpa using h1,h2,h3,h⟩
  ·cases h
 |lookx q zero ok=>
  simp only[a5Q] at h;split at h
  ·obtain⟨h1,h⟩:=a0B h
   simp only[a0t];refine⟨h1,?_⟩
   split at h
   ·rename_i hb;simp only[hb]
    split at h
    ·rename_i hf;simp only[hf]
     split at h
     ·rename_i ho
      rw[if_pos ho]
      split at h
      ·exact⟨_,rfl,h⟩
      ·cases h
     ·rename_i ho;rw[if_neg ho];exact h
    ·rename_i hf;simp only[hf];exact h
    ·cases h
   ·cases h
  ·cases h
 |mupx q=>
  simp only[a5Q] at h;split at h
  ·obtain⟨h1,h⟩:=a0B h
   rw[a6x] at h;obtain⟨h2,h⟩:=a0B h;simp only[a0t];refine⟨h1,h2,?_⟩
   split at h
   ·rename_i hb;simp only[hb]
    split at h
    ·rename_i hf;simp only[hf];rw[a2t] at h;exact h
    ·cases h
   ·cases h
  ·cases h
 |mdel q=>
  simp only[a5Q] at h;split at h
  ·obtain⟨h1,h⟩:=a0B h
   simp only[a0t];refine⟨h1,?_⟩
   split at h
   ·rename_i hb;simp only[hb]
    split at h
    ·rename_i hf;simp only[hf];rw[a2t] at h;exact h
    ·cases h
   ·cases h
  ·cases h
 |mpe q=>cases h
 |ents=>cases h
 |lda n=>cases h
 |mlen=>
  simp only[a5Q] at h;split at h
  ·simp only[a0t]
   split at h
   ·rename_i hb;simp only[hb];exact h
   ·cases h
  ·cases h
def a1a(E:Env)(κ:Kd)(vs:List DV)(b:List (Option Box))(K:DV->List (Option Box)->Option R):Option R :=
 match κ with
 | .mov take=>match vs with
  |[x]=>K (if take then x else x.copy) b
  |_=>none
 | .pick=>match vs with
  |[.p (.bool c),x,y]=>if c then K x.copy b else K y.copy b
  |_=>none
 | .box k size=>match vs with
  |[x]=>match a0G x with
   |some cs=>a0F (cs.length=size) (a0F (x.ment k=false) (b3Z (some ⟨true,size,[a5N cs],false⟩) fun bx=>K (.addr k size 0 0) (a0I b k bx)))
   |none=>none
  |_=>none
 | .alloc k size zero=>match vs with
  |[]=>a0F (zero.length=size) (K (.addr k size 0 0) (a0I b k (some ⟨true,size,[zero],false⟩)))
  |_=>none
 | .build zero offs=>match a1I vs with
  |some ps=>match a8A zero offs ps with
   |some cs=>K (.p (.agg cs)) b
   |none=>none
  |none=>none
 | .bsl size n=>match a1I vs with
  |some rows=>a0F (rows.length=n) (a0F (∀r,r∈rows->(a0C r).length=size) (K (.ow size false rows) b))
  |none=>none
 | .load n isAgg take=>match vs with
  |[.addr k sz r off]=>match a1A b k with
   |some bx=>a0F (sz=bx.size) (match bx.rows[r]? with
    |some row=>a0F (off+n<=row.length) (
     if isAgg then match a1I (a2o row off n) with
      |some cs=>K (.p (.agg cs)) b
      |none=>none
     else match row[off]? with
      |some d=>if take then b3Z (some { bx with rows:=a0I bx.rows r (a0I row off d.copy) }) fun bx=>K d (a0I b k bx) else K d.copy b
      |none=>none)
    |none=>none)
   |none=>none
  |[.p (.ptr cells off)]=>b4e cells off n isAgg fun x=>K (.p x) b
  |_=>none
 | .loadp n isAgg=>match vs with
  |[.p (.ptr cells off)]=>b4e cells off n isAgg fun x=>K (.p x) b
  |_=>none
 | .store n=>match vs with
  |[.addr k sz r off,v]=>match a1A b k,a0G v with
   |some bx,some cs=>a0F (sz=bx.size) (a0F (bx.live=true) (a0F (cs.length=n) (match bx.rows[r]? with
    |some row=>a0F (off+n<=row.length) (b3Z (some { bx with rows:=a0I bx.rows r (a3m row off cs) }) fun bx=>K .top (a0I b k bx))
    |none=>none)))
   |_,_=>none
  |_=>none
 | .bin op=>match vs with
  |[.p x,.p y]=>c4Y op x y fun z=>K (.p z) b
  |_=>none
 | .eqnil neq=>match vs with
  |[.p (.sl _ n _),.ow _ true []]=>K (.p (.bool (if neq then !n else n))) b
  |[.ow _ n _,.ow _ true []]=>K (.p (.bool (if neq then !n else n))) b
  |_=>none
 | .un op=>match vs with
  |[.p (.bool x)]=>match op with
   | .not=>K (.p (.bool !x)) b
   |_=>none
  |[.p (.int k x)]=>match op with
   | .neg=>K (.p (.int k (a8h k (0-x)))) b
   |_=>none
  |_=>none
 | .conv k=>match vs with
  |[.p (.int _ n)]=>K (.p (.int k (a8h k n))) b
  |_=>none
 | .fad off=>match vs with
  |[.addr k size r o]=>K (.addr k size r (o+off)) b
  |[.p (.ptr cells o)]=>K (.p (.ptr cells (o+off))) b
  |_=>none
 | .fld off n isAgg=>match vs with
  |[.p (.agg cs)]=>b4e cs off n isAgg fun x=>K (.p x) b
  |_=>none
 | .iad size=>match vs with
  |[.p (.sl sz _ rows),.p (.int _ i)]=>a0F (sz=size) (a0F (0<=i) (match rows[i.toNat]? with
   |some row=>K (.p (.ptr (a0C row) 0)) b
   |none=>none))
  |[.ow sz _ rows,.p (.int _ i)]=>a0F (sz=size) (a0F (0<=i) (match rows[i.toNat]? with
   |some row=>K (.p (.ptr (a0C row) 0)) b
   |none=>none))
  |[.bs k sz _ lo n,.p (.int _ i)]=>a0F (sz=size) (a0F (0<=i) (a0F (i<n) (K (.addr k sz (lo+i.toNat) 0) b)))
  |_=>none
 | .sidx=>match vs with
  |[.p (.str s),.p (.int _ i)]=>a0F (0<=i) (match s.data.toList[i.toNat]? with
   |some c=>K (.p (.int .u8 c.toNat)) b
   |none=>none)
  |_=>none
 | .len=>match vs with
  |[x]=>match a1x x with
   |some n=>K (.p (.int .i64 n)) b
   |none=>none
  |_=>none
 | .lenD=>match vs with
  |[x]=>match a1x x with
   |some n=>K (.p (.int .i64 n)) b
   |none=>none
  |_=>none
 | .slen=>match vs with
  |[.p (.str z)]=>K (.p (.int .i64 z.size)) b
  |_=>none
 | .app size bytes=>match vs with
  |[.ow sz nl rows,y]=>match y.frz b with
   |some (.sl sz2 _ rows2)=>a0F (sz=size\/(nl=true/\rows.isEmpty=true)) (a0F (sz2=size\/rows2.isEmpty=true) (a0F ((rows.length+rows2.length)*bytes<=140737488355328) (a0F (rows.length+rows2.length<=140737488355328)
     (K (.ow size (nl&&rows2.isEmpty) (rows++rows2)) b))))
   |_=>none
  |[.p (.sl sz true rows),y]=>a0F (rows.isEmpty=true) (match y.frz b with
   |some (.sl sz2 _ rows2)=>a0F (sz=size) (a0F (sz2=size\/rows2.isEmpty=true) (a0F (rows2.length*bytes<=140737488355328) (a0F (rows2.length<=140737488355328)
     (K (.ow size rows2.isEmpty rows2) b))))
   |_=>none)
  |_=>none
 | .ext j=>match vs with
  |[.tup ds]=>match ds[j]? with
   |some d=>K d.dv b
   |none=>none
  |_=>none
 | .extp j=>match vs with
  |[.tup ds]=>match ds[j]? with
   |some d=>K d.dv.copy b
   |none=>none
  |_=>none
 | .call f=>match a9e b vs with
  |some args=>match E.call f args with
   |some r=>K r b
   |none=>none
  |none=>none
 | .callv=>match vs with
  |fx ::xs=>match fx.frz b,a9e b xs with
   |some (.fn f caps),some args=>match E.call f (args++caps) with
    |some r=>K r b
    |none=>none
   |_,_=>none
  |_=>none
 | .mkfn f=>match a9e b vs with
  |some caps=>K (.p (.fn f caps)) b
  |none=>none
 | .mksl k size bytes isAgg zero=>match vs with
  |[.p (.int _ n),.p (.int _ m)]=>a0F (n=m) (a0F (0<=n) (a0F (n*bytes<=140737488355328) (a0F (n<=140737488355328) (a0F (zero.length=size)
    (b3Z (some ⟨true,size,List.replicate n.toNat zero,false⟩) fun bx=>K (.bs k size isAgg 0 n.toNat) (a0I b k bx))))))
  |_=>none
 | .slc size lo hi=>match vs with
  | .p (.sl sz nl rows) ::ys=>a0F (sz=size\/rows.isEmpty=true) (match lo,hi,ys with
   |true,true,[.p (.int _ l),.p (.int _ h)]=>a0F (0<=l) (a0F (l<=h) (a0F (h<=rows.length) (K (.p (.sl sz nl ((rows.take h.toNat).drop l.toNat))) b)))
   |true,false,[.p (.int _ l)]=>a0F (0<=l) (a0F (l<=rows.length) (K (.p (.sl sz nl (rows.drop l.toNat))) b))
   |false,true,[.p (.int _ h)]=>a0F (0<=h) (a0F (h<=rows.length) (K (.p (.sl sz nl (rows.take h.toNat))) b))
   |_,_,_=>none)
  |_=>none
 | .nilchk=>match vs with
  |[.addr k s r o]=>K (.addr k s r o) b
  |[.p (.ptr c o)]=>K (.p (.ptr c o)) b
  |[.p (.fn f c)]=>K (.p (.fn f c)) b
  |_=>none
 | .mn=>match vs with
  |[.p (.int k x),.p (.int k' y)]=>a0F (k=k') (K (.p (.int k (if y<x then y else x))) b)
  |_=>none
 | .mx=>match vs with
  |[.p (.int k x),.p (.int k' y)]=>a0F (k=k') (K (.p (.int k (if y>x then y else x))) b)
  |_=>none
 | .ssl lo hi=>match vs with
  | .p (.str z) ::ys=>match lo,hi,ys with
   |true,true,[.p (.int _ l),.p (.int _ h)]=>a0F (0<=l) (a0F (l<=h) (a0F (h<=z.size) (K (.p (.str (z.extract l.toNat h.toNat))) b)))
   |true,false,[.p (.int _ l)]=>a0F (0<=l) (a0F (l<=z.size) (K (.p (.str (z.extract l.toNat z.size))) b))
   |false,true,[.p (.int _ h)]=>a0F (0<=h) (a0F (h<=z.size) (K (.p (.str (z.extract 0 h.toNat))) b))
   |_,_,_=>none
  |_=>none
 | .slb k size=>match vs with
  |[.bs k' sz ag lo n,.p (.int _ h)]=>a0F (k'=k) (a0F (sz=size) (a0F (lo=0) (a0F (0<=h) (a0F (h<=n) (match a1A b k with
   |some bx=>a0F (h<=bx.rows.length) (b3Z (some { bx with rows:=bx.rows.take h.toNat }) fun bx=>K (.bs k sz ag 0 h.toNat) (a0I b k bx))
   |none=>none)))))
  |_=>none
 | .callm f k=>match a1A b k,b0Z k b vs with
  |some bx,some args=>a0F (bx.live=true) (a0F (a0h bx.rows=true) (match E.callM f bx.size args bx.rows with
   |some (rows',r)=>b3Z (some { bx with rows:=rows' }) fun bx=>K r (a0I b k bx)
   |none=>none))
  |_,_=>none
 | .stk=>none
 | .eqat neq=>match vs with
  |[.p (.atom .nilIface),.p (.atom .nilIface)]=>K (.p (.bool (!neq))) b
  |_=>none
 | .eqs n neq=>match vs with
  |[.p (.agg xs),.p (.agg ys)]=>a0F (xs.length=n) (match b9P xs ys with
   |some r=>K (.p (.bool (if neq then !r else r))) b
   |none=>none)
  |_=>none
 | .eqb neq=>match vs with
  |[.p (.bool x),.p (.bool y)]=>K (.p (.bool (if neq then !(x ==y) else x ==y))) b
  |_=>none
 | .mkz size bytes row=>match vs with
  |[.p (.int _ n),.p (.int _ m)]=>a0F (n=m) (a0F (0<=n) (a0F (n*bytes<=140737488355328) (a0F (n<=140737488355328) (a0F ((a0C row).length=size)
    (K (.ow size false (List.replicate n.toNat row)) b)))))
  |_=>none
 | .s2b=>match vs with
  |[.p (.str z)]=>a0F (z.size<=140737488355328) (K (.p (.sl 1 false (z.data.toList.map fun c=>.int .u8 c.toNat))) b)
  |_=>none
 | .mkmap k=>match vs with
  |[]=>K (.mh k) (a0I b k (some ⟨true,0,[],false⟩))
  |_=>none
 | .look q zero=>match vs with
  |[.mh k,.p (.int q' x)]=>a0F (q'=q) (match a3h b k with
   |some bx=>match a6o q x bx.rows with
    |some (some v)=>K (.p v) b
    |some none=>K (.p zero) b
    |none=>none
   |none=>none)
  |_=>none
 | .mupd q=>match vs with
  |[.mh k,.p (.int q' x),.p v]=>a0F (q'=q) (a0F (v.one=true) (match a3h b k with
   |some bx=>match b5i q x v bx.rows with
    |some rows=>b3Z (some { bx with rows:=rows }) fun bx=>K .top (a0I b k bx)
    |none=>none
   |none=>none))
  |_=>none
 | .at _ _=>none
 | .pl _=>none
 | .ob κ=>a5Q E κ vs b K
theorem a3D{α:Type}{l:List α}:l.isEmpty=true↔l=[]:=by cases l<;>simp
theorem a2u:140737488355328<=maxLen:=by decide
theorem b1R{E:Env}(hc:E.OK P){κ:Kd}{vs:List DV}{b:List (Option Box)}{K:DV->List (Option Box)->Option R}{r:R}
  (h:a1a E κ vs b K=some r):a0E P κ vs b fun v b'=>K v b'=some r:=by
 cases κ with
 |mov take=>
  simp only[a1a] at h;split at h<;>first|(cases h;done)|exact h
 |pick=>
  simp only[a1a] at h;split at h
  ·split at h
   ·rename_i hc;exact⟨fun _=>h,fun e=>by rw[hc] at e;cases e⟩
   ·rename_i hc;exact⟨fun e=>absurd e hc,fun _=>h⟩
  ·cases h
 |box k size=>
  simp only[a1a] at h;split at h
  ·simp only[a0E]
   split at h
   ·rename_i heq;simp only[heq];obtain⟨h1,h⟩:=a0B h;obtain⟨h2,h⟩:=a0B h;rw[a2D] at h;exact⟨h1,h2,h⟩
   ·cases h
  ·cases h
 |alloc k size zero=>
  simp only[a1a] at h;split at h
  ·exact a0B h
  ·cases h
 |build zero offs=>
  simp only[a1a] at h;simp only[a0E];split at h
  ·rename_i heq;simp only[heq]
   split at h
   ·rename_i heq;simp only[heq];exact h
   ·cases h
  ·cases h
 |bsl size n=>
  simp only[a1a] at h;simp only[a0E];split at h
  ·rename_i heq;simp only[heq];obtain⟨h1,h⟩:=a0B h;obtain⟨h2,h⟩:=a0B h;exact⟨h1,h2,h⟩
  ·cases h
 |load n isAgg take=>
  simp only[a1a] at h;split at h
  ·simp only[a0E];split at h
   ·rename_i heq;simp only[heq]
    obtain⟨h1,h⟩:=a0B h
    split at h
    ·rename_i hrow
     obtain⟨h2,h⟩:=a0B h;refine⟨h1,_,hrow,h2,?_⟩
     split at h
     ·rename_i hi
      rw[if_pos hi]
      split at h
      ·rename_i heq;simp only[heq];exact h
      ·cases h
     ·rename_i hi
      rw[if_neg hi]
      split at h
      ·rename_i hd
       refine⟨_,hd,?_⟩
       split at h
       ·rename_i ht;rw[a2D] at h;rw[if_pos ht,if_pos ht];exact h
       ·rename_i ht;rw[if_neg ht,if_neg ht];exact h
      ·cases h
    ·cases h
   ·cases h
  ·exact a8e h
  ·cases h
 |loadp n isAgg=>
  simp only[a1a] at h;split at h
  ·exact a8e h
  ·cases h
 |store n=>
  simp only[a1a] at h;split at h
  ·simp only[a0E];split at h
   ·rename_i heq1 heq2;simp only[heq1,heq2]
    obtain⟨h1,h⟩:=a0B h;obtain⟨h2,h⟩:=a0B h;obtain⟨h3,h⟩:=a0B h
    split at h
    ·rename_i hrow
     obtain⟨h4,h⟩:=a0B h;rw[a2D] at h;exact⟨h1,h2,h3,_,hrow,h4,h⟩
    ·cases h
   ·cases h
  ·cases h
 |bin op=>
  simp only[a1a] at h;split at h
  ·exact b8L h
  ·cases h
 |eqnil neq=>
  simp only[a1a] at h;split at h
  ·exact h
  ·exact h
  ·cases h
 |un op=>
  simp only[a1a] at h;split at h
  ·cases op<;>simp only[a0E]<;>first|exact h|(cases h;done)
  ·cases op<;>simp only[a0E,a8N] at h ⊢<;>first|exact h|(cases h;done)
  ·cases h
 |conv k=>
  simp only[a1a] at h;split at h
  ·rw[a8N] at h;exact h
  ·cases h
 |fad off=>
  simp only[a1a] at h;split at h<;>first|exact h|(cases h;done)
 |fld off n isAgg=>
  simp only[a1a] at h;split at h
  ·exact a8e h
  ·cases h
 |iad size=>
  simp only[a1a] at h;split at h
  ·obtain⟨h1,h⟩:=a0B h;obtain⟨h2,h⟩:=a0B h
   split at h
   ·exact⟨h1,h2,_,by assumption,h⟩
   ·cases h
  ·obtain⟨h1,h⟩:=a0B h;obtain⟨h2,h⟩:=a0B h
   split at h
   ·exact⟨h1,h2,_,by assumption,h⟩
   ·cases h
  ·obtain⟨h1,h⟩:=a0B h;obtain⟨h2,h⟩:=a0B h;obtain⟨h3,h⟩:=a0B h
   exact⟨h1,h2,h3,h⟩
  ·cases h
 |sidx=>
  simp only[a1a] at h;split at h
  ·obtain⟨h1,h⟩:=a0B h
   split at h
   ·exact⟨h1,_,by assumption,h⟩
   ·cases h
  ·cases h
 |len=>
  simp only[a1a] at h;split at h
  ·simp only[a0E];split at h
   ·rename_i heq;simp only[heq];exact fun _=>h
   ·cases h
  ·cases h
 |lenD=>
  simp only[a1a] at h;split at h
  ·simp only[a0E];split at h
   ·rename_i heq;simp only[heq];exact h
   ·cases h
  ·cases h
 |slen=>
  simp only[a1a] at h;split at h<;>first|exact h|(cases h;done)
 |app size bytes=>
  simp only[a1a] at h;split at h
  ·simp only[a0E];split at h
   ·rename_i heq;simp only[heq]
    simp only[a3D] at h;obtain⟨h1,h⟩:=a0B h;obtain⟨h2,h⟩:=a0B h;obtain⟨h3,h⟩:=a0B h;obtain⟨h4,h⟩:=a0B h;exact⟨h1,h2,h3,Nat.le_trans h4 a2u,h⟩
   ·cases h
  ·replace h:=a0B h
   obtain⟨h0,h⟩:=h;rw[List.isEmpty_iff] at h0;subst h0;simp only[a0E];split at h
   ·rename_i heq;simp only[heq]
    simp only[a3D] at h;obtain⟨h1,h⟩:=a0B h;obtain⟨h2,h⟩:=a0B h;obtain⟨h3,h⟩:=a0B h;obtain⟨h4,h⟩:=a0B h;exact⟨h1,h2,h3,Nat.le_trans h4 a2u,h⟩
   ·cases h
  ·cases h
 |ext j=>
  simp only[a1a] at h;split at h
  ·simp only[a0E];split at h<;>first|(cases h;done)|(rename_i heq;simp only[heq];exact h)
  ·cases h
 |extp j=>
  simp only[a1a] at h;split at h
  ·simp only[a0E];split at h<;>first|(cases h;done)|(rename_i heq;simp only[heq];exact h)
  ·cases h
 |call f=>
  simp only[a1a] at h;simp only[a0E];split at h
  ·rename_i heq;simp only[heq]
   split at h
   ·rename_i hcall;exact⟨_,hc.call _ _ _ hcall,h⟩
   ·cases h
  ·cases h
 |callv=>
  simp only[a1a] at h;split at h
  ·simp only[a0E];split at h
   ·rename_i heq1 heq2;simp only[heq1,heq2]
    split at h
    ·rename_i hcall;exact⟨_,hc.call _ _ _ hcall,h⟩
    ·cases h
   ·cases h
  ·cases h
 |mkfn f=>
  simp only[a1a] at h;simp only[a0E];split at h<;>first|(cases h;done)|(rename_i heq;simp only[heq];exact h)
 |mksl k size bytes isAgg zero=>
  simp only[a1a] at h;split at h
  ·obtain⟨h1,h⟩:=a0B h;obtain⟨h2,h⟩:=a0B h;obtain⟨h3,h⟩:=a0B h;obtain⟨h4,h⟩:=a0B h;obtain⟨h5,h⟩:=a0B h
   rw[a2D] at h;have:=a2u;exact⟨h1,h2,h3,by omega,h5,h⟩
  ·cases h
 |slc size lo hi=>
  simp only[a1a] at h;split at h
  ·simp only[a3D] at h
   obtain⟨h1,h⟩:=a0B h;refine⟨h1,?_⟩
   split at h
   ·obtain⟨h1,h⟩:=a0B h;obtain⟨h2,h⟩:=a0B h;obtain⟨h3,h⟩:=a0B h;exact⟨h1,h2,h3,h⟩
   ·obtain⟨h1,h⟩:=a0B h;obtain⟨h2,h⟩:=a0B h;exact⟨h1,h2,h⟩
   ·obtain⟨h1,h⟩:=a0B h;obtain⟨h2,h⟩:=a0B h;exact⟨h1,h2,h⟩
   ·cases h
  ·cases h
 |nilchk=>
  simp only[a1a] at h;split at h<;>first|exact h|(cases h;done)
 |mn=>
  simp only[a1a] at h;split at h
  ·exact a0B h
  ·cases h
 |mx=>
  simp only[a1a] at h;split at h
  ·exact a0B h
  ·cases h
 |ssl lo hi=>
  simp only[a1a] at h;split at h
  ·split at h
   ·obtain⟨h1,h⟩:=a0B h;obtain⟨h2,h⟩:=a0B h;obtain⟨h3,h⟩:=a0B h;exact⟨h1,h2,h3,h⟩
   ·obtain⟨h1,h⟩:=a0B h;obtain⟨h2,h⟩:=a0B h;exact⟨h1,h2,h⟩
   ·obtain⟨h1,h⟩:=a0B h;obtain⟨h2,h⟩:=a0B h;exact⟨h1,h2,h⟩
   ·cases h
  ·cases h
 |slb k size=>
  simp only[a1a] at h;split at h
  ·obtain⟨h1,h⟩:=a0B h;obtain⟨h2,h⟩:=a0B h;obtain⟨h3,h⟩:=a0B h;obtain⟨h4,h⟩:=a0B h;obtain⟨h5,h⟩:=a0B h
   simp only[a0E];refine⟨h1,h2,h3,h4,h5,?_⟩
   split at h
   ·rename_i heq;simp only[heq]
    obtain⟨h6,h⟩:=a0B h;rw[a2D] at h;exact⟨h6,h⟩
   ·cases h
  ·cases h
 |callm f k=>
  simp only[a1a] at h;simp only[a0E];split at h
  ·rename_i heq1 heq2;simp only[heq1,heq2]
   obtain⟨h1,h⟩:=a0B h;obtain⟨h2,h⟩:=a0B h;refine⟨h1,h2,?_⟩
   split at h
   ·rename_i hcall
    rw[a2D] at h;exact⟨_,_,hc.callM _ _ _ _ _ _ hcall,h⟩
   ·cases h
  ·cases h
 |stk=>simp[a1a] at h
 |eqat neq=>
  simp only[a1a] at h;split at h
  ·exact h
  ·cases h
 |eqs n neq=>
  simp only[a1a] at h;split at h
  ·obtain⟨h1,h⟩:=a0B h
   simp only[a0E];refine⟨h1,?_⟩
   split at h
   ·rename_i heq;simp only[heq];exact h
   ·cases h
  ·cases h
 |eqb neq=>
  simp only[a1a] at h;split at h
  ·exact h
  ·cases h
 |mkz size bytes row=>
  simp only[a1a] at h;split at h
  ·obtain⟨h1,h⟩:=a0B h;obtain⟨h2,h⟩:=a0B h;obtain⟨h3,h⟩:=a0B h;obtain⟨h4,h⟩:=a0B h;obtain⟨h5,h⟩:=a0B h
   have:=a2u;exact⟨h1,h2,h3,by omega,h5,h⟩
  ·cases h
 |s2b=>
  simp only[a1a] at h;split at h
  ·obtain⟨h1,h⟩:=a0B h;exact⟨Nat.le_trans h1 a2u,h⟩
  ·cases h
 |mkmap k=>
  simp only[a1a] at h;split at h
  ·exact h
  ·cases h
 |look q zero=>
  simp only[a1a] at h;split at h
  ·obtain⟨h1,h⟩:=a0B h
   simp only[a0E];refine⟨h1,?_⟩
   split at h
   ·rename_i heq;simp only[heq]
    split at h
    ·rename_i heq;simp only[heq];exact h
    ·rename_i heq;simp only[heq];exact h
    ·cases h
   ·cases h
  ·cases h
 |mupd q=>
  simp only[a1a] at h;split at h
  ·obtain⟨h1,h⟩:=a0B h;obtain⟨h2,h⟩:=a0B h
   simp only[a0E];refine⟨h1,h2,?_⟩
   split at h
   ·rename_i heq;simp only[heq]
    split at h
    ·rename_i heq;simp only[heq];rw[a2D] at h;exact h
    ·cases h
   ·cases h
  ·cases h
 | «at» k κ=>simp[a1a] at h
 |pl κ=>simp[a1a] at h
 |ob κ=>exact b6Y hc h
def b8v(E:Env)(κ:Kd)(vs:List DV)(b:List (Option Box))(K:DV->List (Option Box)->Option R):Option R :=
 match κ with
 | .at k κ'=>match vs with
  | .addr k' _ _ _ ::_=>a0F (k'=k) (a1a E κ' vs b K)
  |_=>none
 | .pl κ'=>a0F ((a1I vs).isSome=true) (a1a E κ' vs b K)
 | κ'=>a1a E κ' vs b K
theorem b6B{E:Env}(hc:E.OK P){κ:Kd}{vs:List DV}{b:List (Option Box)}{K:DV->List (Option Box)->Option R}{r:R}
  (h:b8v E κ vs b K=some r):a1q P κ vs b fun v b'=>K v b'=some r:=by
 unfold b8v at h
 split at h
 ·simp only[a1q]
  split at h
  ·obtain⟨h1,h⟩:=a0B h
   exact⟨h1,b1R hc h⟩
  ·cases h
 ·obtain⟨h1,h⟩:=a0B h
  exact⟨h1,b1R hc h⟩
 ·rename_i h1 h2
  unfold a1q
  split
  ·exact(h1 _ _ rfl).elim
  ·exact(h2 _ rfl).elim
  ·exact b1R hc h
def c0P(t:List DV)(d:Option Nat)(v:DV)(K:List DV->Option R):Option R :=
 match d with
 |some i=>dvF v fun v=>b3A t i v K
 |none=>K t
theorem b1S(t:List DV)(d:Option Nat)(v:DV)(K:List DV->Option R):c0P t d v K=K (a0K t d v):=by
 cases d with
 |none=>rfl
 |some i=>simp only[c0P,a0K,a6x,a3t]
def c3J(κ:Kd)(xs:List O)(t:List DV)(K:List DV->Option R):Option R :=
 match κ with
 | .mov true | .app _ _ | .store _ | .ext _=>a3B (a4e κ xs t) K
 |_=>K (a4e κ xs t)
theorem b8B(κ:Kd)(xs:List O)(t:List DV)(K:List DV->Option R):c3J κ xs t K=K (a4e κ xs t):=by
 unfold c3J;split<;>simp only[a2B]
def exR(E:Env)(i:Ins)(s:St)(K:St->Option R):Option R :=
 a0F (b2J i s=true) (b8v E i.k (i.xs.map (O.val s.t)) s.b fun v b'=>c3J i.k.core i.xs s.t fun t=>c0P t i.d v fun t=>a3B b' fun b'=>K ⟨t,b'⟩)
theorem b7k{E:Env}(hc:E.OK P){i:Ins}{s:St}{K:St->Option R}{r:R}(h:exR E i s K=some r):b1K P i s fun s'=>K s'=some r:=by
 unfold exR at h;simp only[b8B,b1S,a2B] at h;obtain⟨h1,h⟩:=a0B h;exact⟨(a9J i s).mp h1,b6B hc h⟩
def c0I(E:Env)(i:Ins)(s:St)(K:St->Option R):Option R :=
 match i.g with
 |none=>exR E i s K
 |some (j,want)=>match a0W s.t j with
  | .p (.bool c)=>if c=want then b3A s.t j (.p (.bool want)) fun t=>exR E i ⟨t,s.b⟩ K else b3A s.t j (.p (.bool (!want))) fun t=>c0P t i.d (.tup []) fun t=>K ⟨t,s.b⟩
  | .tup []=>c0P s.t i.d (.tup []) fun t=>K ⟨t,s.b⟩
  |_=>none
theorem b5G{E:Env}(hc:E.OK P){i:Ins}{s:St}{K:St->Option R}{r:R}(h:c0I E i s K=some r):a0U P i s fun s'=>K s'=some r:=by
 unfold c0I at h;unfold a0U
 split at h
 ·rename_i hg;rw[hg];exact b7k hc h
 ·rename_i j want hg
  rw[hg];simp only
  split at h
  ·rename_i c ht
   rw[ht];simp only[a3t,b1S] at h ⊢
   split at h
   ·rename_i e;exact⟨fun _=>b7k hc h,fun e'=>by subst e;cases c<;>cases e'⟩
   ·rename_i e;exact⟨fun e'=>absurd e' e,fun _=>h⟩
  ·rename_i ht
   rw[ht];simp only[b1S] at h ⊢;exact h
  ·cases h
theorem a3a{is:List Ins}:∀{s:St} {A B:St->Prop},(∀s,A s->B s)->a0o P is s A->a0o P is s B:=by
 induction is with
 |nil=>exact fun hab h=>hab _ h
 |cons i is ih=>exact fun hab h=>a1G (fun s hs=>ih hab hs) h
def b8g(E:Env):List Ins->St->(St->Option R)->Option R
 |[],s,K=>K s
 |i ::is,s,K=>c0I E i s fun s'=>b8g E is s' K
theorem a8o{E:Env}(hc:E.OK P){is:List Ins}:∀{s:St} {K:St->Option R} {r:R},b8g E is s K=some r->a0o P is s fun s'=>K s'=some r:=by
 induction is with
 |nil=>exact fun h=>h
 |cons i is ih=>exact fun h=>a1G (fun s hs=>ih hs) (b5G hc h)
def a8L:List DV->List Nat->(List DV->Option R)->Option R
 |t,[],K=>K t
 |t,n ::ns,K=>b3A t n .top fun t=>a8L t ns K
theorem b3O(t:List DV)(ns:List Nat)(K:List DV->Option R):a8L t ns K=K (forget t ns):=by
 induction ns generalizing t with
 |nil=>rfl
 |cons n ns ih=>simp only[a8L,forget,a3t,ih]
def b2s:List (Option Box)->List Nat->(List (Option Box)->Option R)->Option R
 |t,[],K=>K t
 |t,n ::ns,K=>b3A t n none fun t=>b2s t ns K
theorem b1k(t:List (Option Box))(ns:List Nat)(K:List (Option Box)->Option R):b2s t ns K=K (dropB t ns):=by
 induction ns generalizing t with
 |nil=>rfl
 |cons n ns ih=>simp only[b2s,dropB,a3t,ih]
def c0B(b:List (Option Box))(zs:List Nat)(K:List (Option Box)->Option R):Option R :=
 match zs with
 |[]=>K b
 |k ::ks=>match a1A b k with
  |some bx=>a0F (a0h (a0N bx.rows)=true) (b3Z (some ⟨false,bx.size,a0N bx.rows,bx.old⟩) fun x=>c0B (a0I b k x) ks K)
  |none=>c0B b ks K
theorem b8z{zs:List Nat}:∀{b:List (Option Box)} {K:List (Option Box)->Option R} {r:R},c0B b zs K=some r->b3Y b zs fun b=>K b=some r:=by
 induction zs with
 |nil=>exact fun h=>h
 |cons k ks ih=>
  intro b K r h;simp only[c0B] at h;simp only[b3Y]
  split at h
  ·rename_i heq;simp only[heq]
   obtain⟨h1,h⟩:=a0B h;rw[a2D] at h;exact⟨h1,ih h⟩
  ·rename_i heq;simp only[heq];exact ih h
theorem b5L{zs:List Nat}:∀{b:List (Option Box)} {A B:List (Option Box)->Prop},(∀b,A b->B b)->b3Y b zs A->b3Y b zs B:=by
 induction zs with
 |nil=>exact fun hab h=>hab _ h
 |cons k ks ih=>
  intro b A B hab h;simp only[b3Y] at h ⊢
  split at h
  ·exact⟨h.1,ih hab h.2⟩
  ·exact ih hab h
def a4v:Nat->List DV->List Nat->(List DV->Option R)->Option R
 |_,[],_,K=>K []
 |_,d ::t,[],K=>K (d ::t)
 |i,d ::t,f ::fs,K=>if Nat.beq i f then a4v (i+1) t fs fun r=>K (.top ::r) else a4v (i+1) t (f ::fs) fun r=>K (d ::r)
def b6T:Nat->List Nat->Bool
 |_,[]=>true
 |i,f ::fs=>Nat.ble i f&&b6T (f+1) fs
def a0y:Nat->List DV->List Nat->List DV
 |_,[],_=>[]
 |_,d ::t,[]=>d ::t
 |i,d ::t,f ::fs=>if Nat.beq i f then .top ::a0y (i+1) t fs else d ::a0y (i+1) t (f ::fs)
theorem b2b(i:Nat)(t:List DV)(fs:List Nat)(K:List DV->Option R):a4v i t fs K=K (a0y i t fs):=by
 induction t generalizing i fs K with
 |nil=>simp[a4v,a0y]
 |cons d t ih=>cases fs with
  |nil=>rfl
  |cons f fs=>
   simp only[a4v,a0y]
   split<;>rw[ih]
theorem b6L{fs:List Nat}:∀{i:Nat},b6T i fs=true->∀f,f∈fs->i<=f:=by
 induction fs with
 |nil=>intro i _ f hf;simp at hf
 |cons g fs ih=>
  intro i h f hf;simp only[b6T,bAt,Nat.ble_eq] at h;rcases List.mem_cons.1 hf with rfl|hf
  ·exact h.1
  ·have:=ih h.2 f hf;omega
theorem a7k:∀(t:List DV) (i:Nat) (fs:List Nat),b6T i fs=true->∀j:Nat,(a0y i t fs)[j]?=if (i+j)∈fs then t[j]?.map (fun _=>DV.top) else t[j]?:=by
 intro t
 induction t with
 |nil=>intro i fs _ j;simp[a0y]
 |cons d t ih=>
  intro i fs ha j
  cases fs with
  |nil=>simp[a0y]
  |cons f fs=>
   simp only[a0y];have ha':=ha;simp only[b6T,bAt,Nat.ble_eq] at ha'
   split
   ·rename_i he
    have he:=Nat.eq_of_beq_eq_true he;subst he
    cases j with
    |zero=>simp
    |succ j=>
     rw[List.getElem?_cons_succ,ih (i+1) fs ha'.2 j,List.getElem?_cons_succ];have:i+1+j=i+(j+1):=by omega
     rw[this];have hne:i+(j+1)≠i:=by omega
     simp[hne]
   ·rename_i he
    have he:i≠f:=fun e=>he (by rw[e];exact Nat.beq_refl f)
    have ha2:b6T (i+1) (f ::fs)=true:=by
     simp only[b6T,bAt,Nat.ble_eq];exact⟨by omega,ha'.2⟩
    cases j with
    |zero=>
     have:¬(i+0)∈f ::fs:=fun hm=>by
      have:=b6L ha2 _ hm;omega
     rw[if_neg this];rfl
    |succ j=>
     rw[List.getElem?_cons_succ,ih (i+1) (f ::fs) ha2 j,List.getElem?_cons_succ];have:i+1+j=i+(j+1):=by omega
     rw[this]
theorem b2y:∀(fs:List Nat) (t:List DV) (j:Nat),(forget t fs)[j]?=if j∈fs then t[j]?.map (fun _=>DV.top) else t[j]?:=by
 intro fs
 induction fs with
 |nil=>intro t j;simp[forget]
 |cons f fs ih=>
  intro t j;simp only[forget];rw[ih,getElem?_setL]
  by_cases h1:j=f
  ·subst h1
   by_cases h2:j∈fs
   ·simp[h2];cases t[j]?<;>rfl
   ·simp[h2]
  ·by_cases h2:j∈fs<;>simp[h1,h2]
theorem a9X{t:List DV}{fs:List Nat}(h:b6T 0 fs=true):a0y 0 t fs=forget t fs:=by
 apply List.ext_getElem?
 intro j;rw[a7k t 0 fs h j,b2y,Nat.zero_add]
def a5v(t:List DV)(fs:List Nat)(K:List DV->Option R):Option R:=if b6T 0 fs then a4v 0 t fs K else a8L t fs K
theorem a7I(t:List DV)(fs:List Nat)(K:List DV->Option R):a5v t fs K=K (forget t fs):=by
 unfold a5v
 split
 ·rename_i h;rw[b2b,a9X h]
 ·rw[b3O]
def b9g(f:St->(St->Option R)->Option R):Nat->St->Option R
 |0,_=>none
 |n+1,s=>f s (b9g f n)
def c1y(s s':St):Bool:=b1r dvB s.t s'.t&&b1r c0Y s.b s'.b
theorem b9Y{s s':St}(h:c1y s s'=true):s=s':=by
 simp only[c1y,bAt] at h;cases s;cases s'
 simp only at h;rw[a2j b7l h.1,a2j b4b h.2]
def b5D(f:OpT->Option Unit)(rem:List OpT):List OpT->Option Unit
 |[]=>some ()
 |p ::ps=>bif a4F rem p.2.2 then (match f p with
  |some _=>b5D f rem ps
  |none=>none) else b5D f rem ps
def c0K(E:Env):Nat->List OpT->St->(St->Option Unit)->Option Unit
 |0,_,_,_=>none
 |n+1,rem,s,K=>match rem with
  |[]=>K s
  |p ::rem'=>b5D (fun q=>c0I E q.2.1 s fun s'=>c0K E n (a8V q.1 (p ::rem')) s' K) (p ::rem') (p ::rem')
theorem b8s{E:Env}(hc:E.OK P){K:St->Option Unit}{A:St->Prop}(hK:∀s,K s=some ()->A s):∀{n:Nat} {rem:List OpT} {s:St},c0K E n rem s K=some ()->b3K P n rem s A:=by
 intro n
 induction n with
 |zero=>intro rem s h;cases h
 |succ n ih=>
  intro rem s h
  cases rem with
  |nil=>rw[b3K];exact hK _ h
  |cons p rem'=>
   rw[b3K];simp only[c0K] at h
   suffices ∀ps,b5D (fun q=>c0I E q.2.1 s fun s'=>c0K E n (a8V q.1 (p ::rem')) s' K) (p ::rem') ps=some ()->b9U P n (p ::rem') ps s A from this _ h
   intro ps
   induction ps with
   |nil=>intro _;rw[b9U];trivial
   |cons q ps ihp=>
    intro h;rw[b9U];simp only[b5D] at h
    cases hr:a4F (p ::rem') q.2.2 with
    |false=>rw[hr] at h;exact⟨fun e=>(by cases e),ihp h⟩
    |true=>
     rw[hr] at h;simp only[cond_true] at h
     split at h
     ·rename_i u hu
      exact⟨fun _=>a1G (fun s' hs'=>ih hs') (b5G hc hu),ihp h⟩
     ·cases h
def a6k(E:Env)(fuel:Nat):C->St->(St->Option R)->(Nat->St->Option R)->(St->Option R)->Option R
 | .stuck,_,_,_,_=>none
 | .skip,s,n,_,_=>n s
 | .reg ops,s,n,_,_=>b8g E ops s n
 | .regd ops,s,n,_,_=>b8g E ops s n
 | .rega ops,s,n,_,_=>a0F (c2F ops s=true) (b8g E ops s n)
 | .regm ops,s,n,_,_=>a0F (c1u ops s=true) (b8g E ops s n)
 | .seq a b,s,n,x,r=>a6k E fuel a s (fun s'=>a6k E fuel b s' n x r) x r
 | .cond c a b,s,n,x,r=>match c,c.val s.t with
  | .t j,.p (.bool t)=>if t then b3A s.t j (.p (.bool true)) fun t=>a6k E fuel a ⟨t,s.b⟩ n x r else b3A s.t j (.p (.bool false)) fun t=>a6k E fuel b ⟨t,s.b⟩ n x r
  | .c _,.p (.bool t)=>if t then a6k E fuel a s n x r else a6k E fuel b s n x r
  |_,_=>none
 | .block id c,s,n,x,r=>a6k E fuel c s n (fun j s'=>if j=id then n s' else x j s') r
 | .loop fs ds c,s,_,x,r=>a5v s.t fs fun t=>b2s s.b ds fun b=>b9g (fun s' N=>a6k E fuel c s' (fun s2=>a5v s2.t fs fun t=>b2s s2.b ds fun b=>N ⟨t,b⟩) x r) fuel ⟨t,b⟩
 | .exit id,s,_,x,_=>x id s
 | .ret,s,_,_,r=>r s
 | .gh _ _,_,_,_,_=>none
 | .gp c g,s,n,x,r=>match g with
  | .lay _ _=>a6k E fuel c s n x r
  |_=>none
 | .pre fs zs ds c,s,n,x,r=>c0B s.b zs fun b=>a5v s.t fs fun t=>b2s b ds fun b=>a6k E fuel c ⟨t,b⟩ n x r
 | .own i k ag c,s,n,x,r=>match a0W s.t i with
  | .ow size _ rows=>a0F ((decide (size≠0)&&(decide (k<s.b.length)&&(a0p k s.t&&(a0v k 0 s.b&&(a9S i 0 s.t&&b0H k 0 s.b)))))=true) (a0F (rows.isEmpty=false) (a0F (a4m (a0l rows)=true)
    (a4A rows.length fun m=>b3A s.t i (.bs k size ag 0 m) fun t=>b3Z (some ⟨true,size,a0l rows,false⟩) fun bx=>b3A s.b k bx fun b=>a6k E fuel c ⟨t,b⟩ n x r)))
  |_=>none
 | .regx ops,s,n,_,_=>match b8g E (c1W ops) s some with
  |some s1=>match c0K E (ops.length+1) (b4B 0 ops) s (fun s2=>bif c1y s2 s1 then some () else none) with
   |some _=>n s1
   |none=>none
  |none=>none
theorem b0x{E:Env}(hc:E.OK P){fuel:Nat}:∀{c:C} {s:St} {n:St->Option R} {x:Nat->St->Option R} {r:St->Option R} {d:R}
  {N:St->Prop} {Xp:Nat->St->Prop} {Rp:St->Prop},(∀s,n s=some d->N s)->(∀j s,x j s=some d->Xp j s)->(∀s,r s=some d->Rp s) ->
  a6k E fuel c s n x r=some d->vc P c s N Xp Rp:=by
 intro c
 induction c with
 |stuck=>exact fun _ _ _ h=>by cases h
 |gh g c _=>exact fun _ _ _ h=>by cases h
 |gp c g ih=>
  intro s n x r d N Xp Rp hn hx hr h
  cases g with
  |lay k m=>
   show vc P c s (fun s'=>ghK P (.lay k m) s' N) Xp Rp
   exact ih (fun s hs=>by show c1z s k m N;rw[b3w];exact hn s hs) hx hr h
  |_=>cases h
 |skip=>exact fun hn _ _ h=>hn _ h
 |reg ops=>exact fun hn _ _ h=>a3a hn (a8o hc h)
 |regd ops=>exact fun hn _ _ h=>a3a hn (a8o hc h)
 |rega ops=>
  intro s n x r d N Xp Rp hn _ _ h;obtain⟨h1,h⟩:=a0B h;exact⟨h1,a3a hn (a8o hc h)⟩
 |regm ops=>
  intro s n x r d N Xp Rp hn _ _ h;obtain⟨h1,h⟩:=a0B h;exact⟨h1,a3a hn (a8o hc h)⟩
 |seq a b iha ihb=>exact fun hn hx hr h=>iha (fun s hs=>ihb hn hx hr hs) hx hr h
 |cond c a b iha ihb=>
  intro s n x r d N Xp Rp hn hx hr h
  cases c with
  |t j=>
   simp only[a6k] at h;simp only[vc];generalize (O.t j).val s.t=dv at *
   cases dv with
   |p z=>
    cases z with
    |bool t=>
     simp only[a3t] at h
     cases t with
     |true=>exact⟨fun _=>iha hn hx hr h,fun e=>by cases e⟩
     |false=>exact⟨(fun e=>by cases e),fun _=>ihb hn hx hr h⟩
    |_=>cases h
   |_=>cases h
  |c d0=>
   simp only[a6k] at h;simp only[vc];generalize (O.c d0).val s.t=dv at *
   cases dv with
   |p z=>
    cases z with
    |bool t=>
     cases t with
     |true=>exact⟨fun _=>iha hn hx hr h,fun e=>by cases e⟩
     |false=>exact⟨(fun e=>by cases e),fun _=>ihb hn hx hr h⟩
    |_=>cases h
   |_=>cases h
 |block id c ih=>
  intro s n x r d N Xp Rp hn hx hr h;refine ih hn (fun j s hs=>?_) hr h
  split at hs
  ·rename_i e;rw[if_pos e];exact hn _ hs
  ·rename_i e;rw[if_neg e];exact hx _ _ hs
 |loop fs ds c ih=>
  intro s n x r d N Xp Rp hn hx hr h;simp only[a6k,a7I,b1k] at h;refine⟨fuel,?_⟩;generalize (⟨forget s.t fs,dropB s.b ds⟩:St)=s0 at *
  suffices ∀k s0,b9g (fun s' N=>a6k E fuel c s' (fun s2=>N ⟨forget s2.t fs,dropB s2.b ds⟩) x r) k s0=some d->b9V (fun s' N=>vc P c s' (fun s2=>N ⟨forget s2.t fs,dropB s2.b ds⟩) Xp Rp) k s0 from this fuel s0 h
  intro k
  induction k with
  |zero=>exact fun s0 h=>by cases h
  |succ k ihk=>exact fun s0 h=>ih (fun s hs=>ihk _ hs) hx hr h
 |exit id=>exact fun _ hx _ h=>hx _ _ h
 |ret=>exact fun _ _ hr h=>hr _ h
 |pre fs zs ds c ih=>
  intro s n x r d N Xp Rp hn hx hr h;simp only[a6k,a7I,b1k] at h;exact b5L (fun b hb=>ih hn hx hr hb) (b8z h)
 |regx ops=>
  intro s n x r d N Xp Rp hn _ _ h;simp only[a6k] at h
  split at h
  ·rename_i s1 _
   split at h
   ·rename_i u hu
    refine b8s hc (fun s2 hs2=>?_) hu
    cases he:c1y s2 s1 with
    |false=>rw[he] at hs2;cases hs2
    |true=>rw[b9Y he];exact hn _ h
   ·cases h
  ·cases h
 |own i k ag c ih=>
  intro s n x r d N Xp Rp hn hx hr h;simp only[a6k,a0g,a3t,a2D] at h;simp only[vc]
  split at h
  ·rename_i size nl rows hg
   obtain⟨h1,h⟩:=a0B h;obtain⟨h2,h⟩:=a0B h;obtain⟨h3,h⟩:=a0B h;rw[hg];exact⟨h1,(fun e=>by subst e;cases h2),h3,ih hn hx hr h⟩
  ·cases h
def c5m(b:List (Option Box))(K:TV->Option R):DV->Option R
 | .p x=>K (.p x)
 | .ow size n rows=>K (.ow size n rows)
 |d=>match d.frz b with
  |some x=>K (.p x)
  |none=>none
def b8F(s:St)(K:TV->Option R):RV->Option R
 | .tmp t=>c5m s.b K (a0W s.t t)
 | .cell t n=>match a0W s.t t with
  | .addr k sz r off=>match a1A s.b k with
   |some bx=>a0F (sz=bx.size) (match bx.rows[r]? with
    |some row=>a0F (off+n<=row.length) (match a1I (a2o row off n) with
     |some cs=>K (.p (.agg cs))
     |none=>none)
    |none=>none)
   |none=>none
  |_=>none
def a8G(s:St):List RV->(List TV->Option R)->Option R
 |[],K=>K []
 |r ::rs,K=>b8F s (fun x=>a8G s rs fun xs=>K (x ::xs)) r
theorem b8d{b:List (Option Box)}{K:TV->Option R}{v:DV}{d:R}{N:TV->Prop}(hn:∀x,K x=some d->N x)(h:c5m b K v=some d):dvT b N v:=by
 have other:∀{v:DV},(match v.frz b with|some x=>K (.p x)|none=>none)=some d->(match v.frz b with|some x=>N (.p x)|none=>False):=by
  intro v h
  split at h
  ·exact hn _ h
  ·cases h
 cases v with
 |p x=>exact hn _ h
 |ow a b c=>exact hn _ h
 |top=>exact other (v:=.top) h
 |tup ds=>exact other (v:=.tup ds) h
 |addr a1 a2 a3 a4=>exact other (v:=.addr a1 a2 a3 a4) h
 |bs a1 a2 a3 a4 a5=>exact other (v:=.bs a1 a2 a3 a4 a5) h
 |fn a1 a2=>exact other (v:=.fn a1 a2) h
 |mh a1=>exact other (v:=.mh a1) h
 |ob a1=>exact other (v:=.ob a1) h
 |pk a1=>exact other (v:=.pk a1) h
 |agd a1=>exact other (v:=.agd a1) h
theorem b5u{s:St}{K:TV->Option R}{rv:RV}{d:R}{N:TV->Prop}(hn:∀x,K x=some d->N x)(h:b8F s K rv=some d):b5h s N rv:=by
 cases rv with
 |tmp t=>exact b8d hn h
 |cell t n=>
  simp only[b8F] at h;simp only[b5h]
  split at h
  ·rename_i heq;simp only[heq]
   split at h
   ·rename_i heq;simp only[heq]
    obtain⟨h1,h⟩:=a0B h
    split at h
    ·rename_i hrow
     obtain⟨h2,h⟩:=a0B h;refine⟨h1,_,hrow,h2,?_⟩
     split at h
     ·rename_i heq;simp only[heq];exact hn _ h
     ·cases h
    ·cases h
   ·cases h
  ·cases h
theorem a8U{s:St}{rvs:List RV}:∀{K:List TV->Option R} {d:R} {N:List TV->Prop},(∀x,K x=some d->N x)->a8G s rvs K=some d->a5k s rvs N:=by
 induction rvs with
 |nil=>exact fun hn h=>hn _ h
 |cons r rs ih=>exact fun hn h=>b5u (fun x hx=>ih (fun xs hxs=>hn _ hxs) hx) h
def b7x(v:Option DV):Option DV:=match v with
 |some v=>if v.plain then some v else none
 |none=>none
abbrev Tbl:=List (Nat×Fn)
def Tbl.get:Tbl->Nat->Option Fn
 |[],_=>none
 |(k,F) ::l,f=>if Nat.beq k f then some F else Tbl.get l f
theorem b6y{b:List (Option Box)}{A B:TV->Prop}(hab:∀x,A x->B x){d:DV}(h:dvT b A d):dvT b B d:=by
 unfold dvT at h ⊢
 split at h
 ·exact hab _ h
 ·exact hab _ h
 ·split at h
  ·exact hab _ h
  ·exact h
theorem a9M{s:St}{A B:TV->Prop}(hab:∀x,A x->B x){r:RV}(h:b5h s A r):b5h s B r:=by
 unfold b5h at h ⊢
 split at h
 ·exact b6y hab h
 ·split at h
  ·split at h
   ·obtain⟨h1,row,h2,h3,h4⟩:=h
    refine⟨h1,row,h2,h3,?_⟩
    split at h4
    ·exact hab _ h4
    ·exact h4
   ·exact h
  ·exact h
theorem a6G{s:St}:∀{rs:List RV} {A B:List TV->Prop},(∀x,A x->B x)->a5k s rs A->a5k s rs B
 |[],_,_,hab,h=>hab _ h
 |_ ::_,_,_,hab,h=>a9M (fun x hx=>a6G (fun xs h=>hab _ h) hx) h
theorem b2g{s:St}{A:Prop}{r:RV}(h:b5h s (fun _=>A) r):A:=by
 unfold b5h dvT at h
 split at h
 ·split at h
  ·exact h
  ·exact h
  ·split at h
   ·exact h
   ·exact h.elim
 ·split at h
  ·split at h
   ·obtain⟨h1,row,h2,h3,h4⟩:=h
    split at h4
    ·exact h4
    ·exact h4.elim
   ·exact h.elim
  ·exact h.elim
theorem a7B{s:St}{A:Prop}:∀{rs:List RV},a5k s rs (fun _=>A)->A
 |[],h=>h
 |_ ::_,h=>a7B (b2g (a9M (B:=fun _=>a5k s _ fun _=>A) (fun _ h=>h) h))
def b1z(nb:Nat)(size:Nat)(rv:List RV)(s:St):Option (List (List DV)×DV) :=
 match a1A s.b nb with
 |some ⟨true,sz,rows,true⟩=>a0F (sz=size) (a8G s rv fun xs=>dvF (a0r xs) fun v=>some (rows,v))
 |_=>none
def b4j(v:Option (List (List DV)×DV)):Option (List (List DV)×DV):=match v with
 |some (rows,v)=>if v.plain&&a0h rows then some (rows,v) else none
 |none=>none
def c1t(nb:Nat):List Box->(List (Option Box)->Option R)->Option R
 |[],K=>K []
 |bx ::l,K=>a4l (fun i=>some (nb+i)) bx.rows fun rows=>a4A bx.size fun sz=>c1t nb l fun l=>K (some ⟨true,sz,rows,true⟩ ::l)
theorem b8c(nb:Nat)(l:List Box)(K:List (Option Box)->Option R):c1t nb l K=K (shB nb l):=by
 induction l generalizing K with
 |nil=>rfl
 |cons x xs ih=>simp only[c1t,shB,a3T,a0g];rw[ih]
def c2g(n nb:Nat)(args:List DV)(bs:List Box)(K:St->Option R):Option R :=
 a9w (fun i=>some (nb+i)) args fun xs=>a3B (xs++List.replicate (n-args.length) .top) fun t=>c1t nb bs fun l=>a3B (List.replicate nb none++l) fun b=>K ⟨t,b⟩
theorem b9N(n nb:Nat)(args:List DV)(bs:List Box)(K:St->Option R):c2g n nb args bs K=K (StO n nb args bs):=by
 simp only[c2g,b0E,a2B,b8c,StO]
def b5F(s:St)(rvs:List RV)(K:DV->Option R):Option R :=
 match rvs with
 |[.tmp t]=>if c4P s.b (a0W s.t t)=true then K (a0W s.t t) else a8G s [.tmp t] fun xs=>K (a0r xs)
 |rvs=>a8G s rvs fun xs=>K (a0r xs)
theorem b3k{s:St}{rvs:List RV}{K:DV->Option R}{d:R}{N:DV->Prop}(hn:∀x,K x=some d->N x)(h:b5F s rvs K=some d):a9l s rvs N:=by
 have gen:∀{l:List RV},(a8G s l fun xs=>K (a0r xs))=some d->a5k s l fun xs=>N (a0r xs):=fun h=>a8U (fun xs hx=>hn _ hx) h
 match rvs,h with
 |[.tmp t],h=>
  simp only[b5F] at h;simp only[a9l]
  split at h
  ·rename_i hr;rw[if_pos hr];exact hn _ h
  ·rename_i hr;rw[if_neg hr];exact gen h
 |[],h=>exact gen h
 |[.cell t n],h=>exact gen h
 | .tmp _ ::_ ::_,h=>exact gen h
 | .cell _ _ ::_ ::_,h=>exact gen h
def a7E(b:List (Option Box))(nb m:Nat)(ν:Nat->Option Nat):List Nat->(List (Option Box)->Option R)->Option R
 |[],K=>K []
 |k ::ks,K=>if a6K b nb m k then match a4B b k with
   |some bx=>a4l ν bx.rows fun rows=>a4A bx.size fun sz=>a7E b nb m ν ks fun l=>K (some ⟨true,sz,rows,false⟩ ::l)
   |none=>a7E b nb m ν ks fun l=>K (none ::l)
  else a7E b nb m ν ks fun l=>K (none ::l)
theorem b4A(b:List (Option Box))(nb m:Nat)(ν:Nat->Option Nat)(l:List Nat)(K:List (Option Box)->Option R):a7E b nb m ν l K=K (a8n b nb m ν l):=by
 induction l generalizing K with
 |nil=>rfl
 |cons x xs ih=>
  simp only[a7E,a8n,c2G]
  split
  ·split<;>(rename_i heq;simp only[heq,a3T,a0g];rw[ih])
  ·rw[ih]
def b9B(b:List (Option Box))(nb m:Nat)(r:DV)(K:List (Option Box)->DV->Option R):Option R :=
 b0b (b0f b (a1l nb m) (a8M r [])) fun ws=>b0b (a1l nb m) fun rs=>a4J b 4000 ws rs fun all=>a7E b nb m (nuF b nb m all) all fun bs=>b6Z (nuF b nb m all) r fun r=>K bs r
theorem b7C(b:List (Option Box))(nb m:Nat)(r:DV)(K:List (Option Box)->DV->Option R):b9B b nb m r K=K (b7w b nb m r).1 (b7w b nb m r).2:=by
 simp only[b9B,b1j,a1k,b4A,b2C,b7w,c1a]
def b2F(nb m:Nat)(rv:List RV)(s:St):Option (List (Option Box)×DV):=b5F s rv fun r0=>dvF r0 fun r0=>b9B s.b nb m r0 fun bs r=>some (bs,r)
def b3a(m:Nat)(v:Option (List (Option Box)×DV)):Option (List (Option Box)×DV):=match v with
 |some (bs',r)=>if (r.plain||r.isRef)&&Nat.ble m bs'.length then some (bs',r) else none
 |none=>none
def b3M(ext:FuncId->List PV->Option DV)(extO:FuncId->List DV->List Box->Option (List (Option Box)×DV))(tbl:Tbl):Nat->Env
 |0=>⟨fun _ _=>none,fun _ _ _ _=>none,fun _ _ _=>none⟩
 |n+1=>
  ⟨fun f args => match tbl.get f with
   |some F=>b7x (a6k (b3M ext extO tbl n) (n+1) F.c (St0 F.n F.nb args) (fun s=>a8G s F.rv fun xs=>dvF (a0r xs) some) (fun _ _=>none) (fun s=>a8G s F.rv fun xs=>dvF (a0r xs) some))
   |none=>ext f args,
   fun f size args rows=>match tbl.get f with
   |some F=>if (decide (size≠0))&&(a0h rows&&args.all DV.arg) then b4j (a6k (b3M ext extO tbl n) (n+1) F.c (St1 F.n F.nb args size rows) (b1z F.nb size F.rv) (fun _ _=>none) (b1z F.nb size F.rv)) else none
   |none=>none,
   fun f args bs=>match tbl.get f with
   |some F=>if a9E bs then b3a bs.length (c2g F.n F.nb args bs fun s=>a6k (b3M ext extO tbl n) (n+1) F.c s (b2F F.nb bs.length F.rv) (fun _ _=>none) (b2F F.nb bs.length F.rv)) else none
   |none=>extO f args bs⟩
structure TblOK (P:Program) (tbl:Tbl):Prop where
 all:∀f F,tbl.get f=some F->a0H P f F=true
theorem TblOK.nil:TblOK P []:=⟨fun f F h=>by cases h⟩
theorem TblOK.cons{k:Nat}{F:Fn}{l:Tbl}(h:a0H P k F=true)(hl:TblOK P l):TblOK P ((k,F) ::l):=by
 refine⟨fun f G hf=>?_⟩
 simp only[Tbl.get] at hf
 split at hf
 ·rename_i e
  have:k=f:=Nat.eq_of_beq_eq_true e;subst this;injection hf with hf
  subst hf;exact h
 ·exact hl.all f G hf
theorem a4u{ext:FuncId->List PV->Option DV}{extO:FuncId->List DV->List Box->Option (List (Option Box)×DV)}(he:∀f a d,ext f a=some d->a0A P f a d)(heO:∀f a bs bs' d,extO f a bs=some (bs',d)->a1Y P f a bs bs' d)
  {tbl:Tbl} (ht:TblOK P tbl):∀{n:Nat},(b3M ext extO tbl n).OK P:=by
 intro n
 induction n with
 |zero=>exact⟨(fun f a d h=>by cases h),(fun f n a r r' d h=>by cases h),(fun f a bs bs' d h=>by cases h)⟩
 |succ n ih=>
  refine⟨fun f args d h=>?_,fun f size args rows rows' d h=>?_,fun f args bs bs' d h=>?_⟩
  ·simp only[b3M] at h
   split at h
   ·rename_i F hF
    unfold b7x at h
    split at h
    ·rename_i v hv
     split at h
     ·rename_i hp
      injection h with h
      subst h;have hpost:∀s:St,(a8G s F.rv fun xs=>dvF (a0r xs) some)=some v->F.post v s:=fun s hs=>a8U (fun xs hx=>by rw[a6x] at hx;injection hx) hs
      exact Fn.pure (ht.all _ _ hF) hp (b0x ih hpost (fun _ _ h=>by cases h) hpost hv)
     ·cases h
    ·cases h
   ·exact he _ _ _ h
  ·simp only[b3M] at h
   split at h
   ·rename_i F hF
    split at h
    ·rename_i hpre
     simp only[bAt,decide_eq_true_eq] at hpre;unfold b4j at h
     split at h
     ·rename_i rws v hv
      split at h
      ·rename_i hp
       simp only[bAt] at hp;injection h with h
       injection h with h1 h2
       subst h1;subst h2
       have hpost:∀s:St,b1z F.nb size F.rv s=some (rws,v)->F.postM size rws v s:=fun s hs=>by
        unfold b1z at hs
        split at hs
        ·rename_i sz rows0 hg
         obtain⟨hsz,hs2⟩:=a0B hs;subst hsz
         have:=a8U (N:=fun xs=>rows0=rws/\a0r xs=v) (fun xs hx=>by
          rw[a6x] at hx;injection hx with hx
          injection hx with hx1 hx2
          exact⟨hx1,hx2⟩) hs2
         refine⟨?_,a6G (fun xs h=>h.2) this⟩
         have e:rows0=rws:=a7B (a6G (fun xs h=>h.1) this)
         rw[hg,e]
        ·cases hs
       exact Fn.mcall (ht.all _ _ hF) hp.1 hpre.2.1 hp.2 hpre.2.2 hpre.1 (b0x ih hpost (fun _ _ h=>by cases h) hpost hv)
      ·cases h
     ·cases h
    ·cases h
   ·cases h
  ·simp only[b3M] at h
   split at h
   ·rename_i F hF
    split at h
    ·rename_i hlv
     unfold b3a at h
     split at h
     ·rename_i bs2 r2 hv
      split at h
      ·rename_i hp
       simp only[bAt] at hp;injection h with h
       injection h with h1 h2
       subst h1;subst h2;rw[b9N] at hv
       have hpost:∀s:St,b2F F.nb bs.length F.rv s=some (bs2,r2)->F.postO bs.length bs2 r2 s:=fun s hs=>by
        unfold b2F at hs;refine b3k (fun x hx=>?_) hs
        simp only[a6x,b7C,sIj] at hx;exact hx
       exact Fn.ocall (ht.all _ _ hF) hp.1 hlv hp.2 (b0x ih hpost (fun _ _ h=>by cases h) hpost hv)
      ·cases h
     ·cases h
    ·cases h
   ·exact heO _ _ _ _ _ h
open Go.RowKit
def c2H:Fn:=⟨25,0,[.tmp 2],
 (.sr [mc 2 (.int .i64 0)]
 (.seq
 (.sr [mv 3 0,
 b1 4 .geq 3 (.int .u64 4294967296)]
 (.cond (.t 4)
 (.sr [mv 5 0,
 b1 6 .shr 5 (.int .u64 32),
 mt 0 6]
 (.reg [mc 2 (.int .i64 32)]))
 .skip))
 (.seq
 (.sr [mv 7 0,
 b1 8 .geq 7 (.int .u64 65536)]
 (.cond (.t 8)
 (.sr [mv 9 0,
 b1 10 .shr 9 (.int .u64 16),
 mt 0 10]
 (.reg [mv 11 2,
 b1 12 .add 11 (.int .i64 16),
 mt 2 12]))
 .skip))
 (.seq
 (.sr [mv 13 0,
 b1 14 .geq 13 (.int .u64 256)]
 (.cond (.t 14)
 (.sr [mv 15 0,
 b1 16 .shr 15 (.int .u64 8),
 mt 0 16]
 (.reg [mv 17 2,
 b1 18 .add 17 (.int .i64 8),
 mt 2 18]))
 .skip))
 (.sr [mv 19 2,
 mv 20 0,
 ii 21 (.conv .u8) [.t 20],
 ⟨some 22,none,.sidx,[.c (.p (.str ⟨#[0,1,2,2,3,3,3,3,4,4,4,4,4,4,4,4,5,5,5,5,5,5,5,5,5,5,5,5,5,5,5,5,6,6,6,6,6,6,6,6,6,6,6,6,6,6,6,6,6,6,6,6,6,6,6,6,6,6,6,6,6,6,6,6,7,7,7,7,7,7,7,7,7,7,7,7,7,7,7,7,7,7,7,7,7,7,7,7,7,7,7,7,7,7,7,7,7,7,7,7,7,7,7,7,7,7,7,7,7,7,7,7,7,7,7,7,7,7,7,7,7,7,7,7,7,7,7,7,8,8,8,8,8,8,8,8,8,8,8,8,8,8,8,8,8,8,8,8,8,8,8,8,8,8,8,8,8,8,8,8,8,8,8,8,8,8,8,8,8,8,8,8,8,8,8,8,8,8,8,8,8,8,8,8,8,8,8,8,8,8,8,8,8,8,8,8,8,8,8,8,8,8,8,8,8,8,8,8,8,8,8,8,8,8,8,8,8,8,8,8,8,8,8,8,8,8,8,8,8,8,8,8,8,8,8,8,8,8,8,8,8,8,8,8,8,8,8,8,8,8,8,8,8,8,8,8]⟩)),.t 21]⟩,
 ii 23 (.conv .i64) [.t 22],
 b2 24 .add 19 23,
 mt 2 24]
 .ret)))))⟩
theorem c2l:a0H Tryz.prog 208 c2H=true:=by kernel_rfl
open Go.RowKit Ma
def c6w:Tbl:=[(173,c1r),(208,c2H)]
theorem b8S:TblOK Tryz.prog c6w:=.cons c2u <| .cons c2l <| .nil
def envS:Env:=b3M (fun _ _=>none) (fun _ _ _=>none) c6w 20
theorem envS_ok:envS.OK Tryz.prog:=a4u (fun f a d h=>by cases h) (fun f a bs bs' d h=>by cases h) b8S
theorem c4Q(n:Nat)(h:n<=12):∃v:Int,a0A Tryz.prog 173 [.int .u64 (IntKind.wrap .u64 n)] (.p (.int .i64 v)):=by
 match n,h with
 |0,_=>exact⟨0,envS_ok.call 173 [.int .u64 (IntKind.wrap .u64 (0:Nat))] _ (by kernel_rfl)⟩
 |1,_=>exact⟨1,envS_ok.call 173 [.int .u64 (IntKind.wrap .u64 (1:Nat))] _ (by kernel_rfl)⟩
 |2,_=>exact⟨2,envS_ok.call 173 [.int .u64 (IntKind.wrap .u64 (2:Nat))] _ (by kernel_rfl)⟩
 |3,_=>exact⟨2,envS_ok.call 173 [.int .u64 (IntKind.wrap .u64 (3:Nat))] _ (by kernel_rfl)⟩
 |4,_=>exact⟨3,envS_ok.call 173 [.int .u64 (IntKind.wrap .u64 (4:Nat))] _ (by kernel_rfl)⟩
 |5,_=>exact⟨3,envS_ok.call 173 [.int .u64 (IntKind.wrap .u64 (5:Nat))] _ (by kernel_rfl)⟩
 |6,_=>exact⟨3,envS_ok.call 173 [.int .u64 (IntKind.wrap .u64 (6:Nat))] _ (by kernel_rfl)⟩
 |7,_=>exact⟨3,envS_ok.call 173 [.int .u64 (IntKind.wrap .u64 (7:Nat))] _ (by kernel_rfl)⟩
 |8,_=>exact⟨4,envS_ok.call 173 [.int .u64 (IntKind.wrap .u64 (8:Nat))] _ (by kernel_rfl)⟩
 |9,_=>exact⟨4,envS_ok.call 173 [.int .u64 (IntKind.wrap .u64 (9:Nat))] _ (by kernel_rfl)⟩
 |10,_=>exact⟨4,envS_ok.call 173 [.int .u64 (IntKind.wrap .u64 (10:Nat))] _ (by kernel_rfl)⟩
 |11,_=>exact⟨4,envS_ok.call 173 [.int .u64 (IntKind.wrap .u64 (11:Nat))] _ (by kernel_rfl)⟩
 |12,_=>exact⟨4,envS_ok.call 173 [.int .u64 (IntKind.wrap .u64 (12:Nat))] _ (by kernel_rfl)⟩
section
variable (lt:Ma.Place->Ma.Place->Bool) (f:FuncId) (cv:Ma.Place->Ma.Place->Int) (hf:∀a b,a0A Tryz.prog f [eQ a,eQ b] (.p (.int .i64 (cv a b)))) (hlt:∀a b,decide (cv a b<0)=lt a b) (l:List Ma.Place) (hl:l.length<=12) (ag:Bool)
include hf hlt hl
theorem b5t:a4f Tryz.prog 171 2 [.bs 0 2 ag 0 l.length,.p (.int .i64 l.length),.p (.fn f [])] (l.map rQ) ((a0w lt l).map rQ) (.tup []):=by
 have h:=a9F lt f cv hf hlt l (by omega) ag
 have ha:=a1O l;have ha2:=a1O (a0w lt l);have b1:decide ((20:Int)<=(l.length:Int))=false:=decide_eq_false (by omega)
 have b2:decide ((20:Int)<(l.length:Int))=false:=decide_eq_false (by omega)
 refine Fn.runM c3I rfl ha ha2 rfl (by decide) ?_
 generalize Tryz.prog=P at *
 (repeat'((conv=>whnf);first|exact trivial|(with_reducible first|refine zX ?_|refine zP ?_|refine zL ?_)|refine⟨rfl,?_⟩|refine⟨_,rfl,?_⟩|refine⟨fun _=>?_,fun _=>?_⟩|refine zn ?_|refine zb rfl ?_|refine zX ?_|refine zo rfl ?_|refine zs ?_|intro _));all_goals(try(conv=>whnf))
 refine⟨1,?_⟩
 (repeat'((conv=>whnf);first|exact trivial|(with_reducible first|refine zX ?_|refine zP ?_|refine zL ?_)|refine⟨rfl,?_⟩|refine⟨_,rfl,?_⟩|refine⟨fun _=>?_,fun _=>?_⟩|refine zn ?_|refine zb rfl ?_|refine zX ?_|refine zo rfl ?_|refine zs ?_|intro _));all_goals(try(conv=>whnf))
 refine⟨_,_,h,?_⟩
 (repeat'((conv=>whnf);first|exact trivial|(with_reducible first|refine zX ?_|refine zP ?_|refine zL ?_)|refine⟨rfl,?_⟩|refine⟨_,rfl,?_⟩|refine⟨fun _=>?_,fun _=>?_⟩|refine zn ?_|refine zb rfl ?_|refine zX ?_|refine zo rfl ?_|refine zs ?_|intro _));all_goals(try(conv=>whnf))
 refine⟨1,?_⟩
 (repeat'((conv=>whnf);first|exact trivial|(with_reducible first|refine zX ?_|refine zP ?_|refine zL ?_)|refine⟨rfl,?_⟩|refine⟨_,rfl,?_⟩|refine⟨fun _=>?_,fun _=>?_⟩|refine zn ?_|refine zb rfl ?_|refine zX ?_|refine zo rfl ?_|refine zs ?_|intro _));all_goals(try(conv=>whnf))
 all_goals rfl
theorem c0s:a4f Tryz.prog 131 2 [.bs 0 2 ag 0 l.length,.p (.fn f [])] (l.map rQ) ((a0w lt l).map rQ) (.tup []):=by
 have h:=b5t lt f cv hf hlt l hl ag;have ha:=a1O l;have ha2:=a1O (a0w lt l);refine Fn.runM c4j rfl ha ha2 rfl (by decide) ?_
 generalize Tryz.prog=P at *
 (repeat'((conv=>whnf);first|exact trivial|(with_reducible first|refine zX ?_|refine zP ?_|refine zL ?_)|refine⟨rfl,?_⟩|refine⟨_,rfl,?_⟩|refine⟨fun _=>?_,fun _=>?_⟩|refine zn ?_|refine zb rfl ?_|refine zX ?_|refine zo rfl ?_|refine zs ?_|intro _));all_goals(try(conv=>whnf))
 refine⟨_,_,h,?_⟩
 (repeat'((conv=>whnf);first|exact trivial|(with_reducible first|refine zX ?_|refine zP ?_|refine zL ?_)|refine⟨rfl,?_⟩|refine⟨_,rfl,?_⟩|refine⟨fun _=>?_,fun _=>?_⟩|refine zn ?_|refine zb rfl ?_|refine zX ?_|refine zo rfl ?_|refine zs ?_|intro _));all_goals(try(conv=>whnf))
 all_goals rfl
theorem c2k(v:Int):a4f Tryz.prog 172 2 [.bs 0 2 ag 0 l.length,.p (.int .i64 0),.p (.int .i64 l.length),.p (.int .i64 v),.p (.fn f [])] (l.map rQ) ((a0w lt l).map rQ) (.tup []):=by
 have h:=a9F lt f cv hf hlt l (by omega) ag
 have ha:=a1O l;have ha2:=a1O (a0w lt l);have b1:decide (IntKind.wrap .i64 ((l.length:Int)-0)<=(12:Int))=true:=decide_eq_true (by rw[a0T (by omega) (by omega)];omega)
 refine Fn.runM c3j rfl ha ha2 rfl (by decide) ?_
 generalize Tryz.prog=P at *
 (repeat'((conv=>whnf);first|exact trivial|(with_reducible first|refine zX ?_|refine zP ?_|refine zL ?_)|refine⟨rfl,?_⟩|refine⟨_,rfl,?_⟩|refine⟨fun _=>?_,fun _=>?_⟩|refine zn ?_|refine zb rfl ?_|refine zX ?_|refine zo rfl ?_|refine zs ?_|intro _));all_goals(try(conv=>whnf))
 refine⟨1,?_⟩
 (repeat'((conv=>whnf);first|exact trivial|(with_reducible first|refine zX ?_|refine zP ?_|refine zL ?_)|refine⟨rfl,?_⟩|refine⟨_,rfl,?_⟩|refine⟨fun _=>?_,fun _=>?_⟩|refine zn ?_|refine zb rfl ?_|refine zX ?_|refine zo rfl ?_|refine zs ?_|intro _));all_goals(try(conv=>whnf))
 refine⟨_,_,h,?_⟩
 (repeat'((conv=>whnf);first|exact trivial|(with_reducible first|refine zX ?_|refine zP ?_|refine zL ?_)|refine⟨rfl,?_⟩|refine⟨_,rfl,?_⟩|refine⟨fun _=>?_,fun _=>?_⟩|refine zn ?_|refine zb rfl ?_|refine zX ?_|refine zo rfl ?_|refine zs ?_|intro _));all_goals(try(conv=>whnf))
 all_goals rfl
theorem c1m:a4f Tryz.prog 133 2 [.bs 0 2 ag 0 l.length,.p (.fn f [])] (l.map rQ) ((a0w lt l).map rQ) (.tup []):=by
 obtain⟨v,h96⟩:=c4Q l.length hl;have h:=c2k lt f cv hf hlt l hl ag v;have ha:=a1O l;have ha2:=a1O (a0w lt l);refine Fn.runM c4t rfl ha ha2 rfl (by decide) ?_
 generalize Tryz.prog=P at *
 (repeat'((conv=>whnf);first|exact trivial|(with_reducible first|refine zX ?_|refine zP ?_|refine zL ?_)|refine⟨rfl,?_⟩|refine⟨_,rfl,?_⟩|refine⟨fun _=>?_,fun _=>?_⟩|refine zn ?_|refine zb rfl ?_|refine zX ?_|refine zo rfl ?_|refine zs ?_|intro _));all_goals(try(conv=>whnf))
 refine⟨_,_,h,?_⟩
 (repeat'((conv=>whnf);first|exact trivial|(with_reducible first|refine zX ?_|refine zP ?_|refine zL ?_)|refine⟨rfl,?_⟩|refine⟨_,rfl,?_⟩|refine⟨fun _=>?_,fun _=>?_⟩|refine zn ?_|refine zb rfl ?_|refine zX ?_|refine zo rfl ?_|refine zs ?_|intro _));all_goals(try(conv=>whnf))
 all_goals rfl
end
theorem byX(l:List Ma.Place)(hl:l.length<=12)(ag:Bool):a4f Tryz.prog 131 2 [.bs 0 2 ag 0 l.length,.p (.fn 132 [])] (l.map rQ) ((a0w ltX l).map rQ) (.tup []) :=
 c0s ltX 132 (fun a b=>b5j b.x a.x) c4q (fun a b=>b2S _ _) l hl ag
theorem byC(l:List Ma.Place)(hl:l.length<=12)(ag:Bool):a4f Tryz.prog 133 2 [.bs 0 2 ag 0 l.length,.p (.fn 134 [])] (l.map rQ) ((a0w ltC l).map rQ) (.tup []) :=
 c1m ltC 134 (fun a b=>b5j a.core b.core) c4d (fun a b=>b2S _ _) l hl ag
open Go.RowKit Ma
theorem b6u{lag n:Int}(hl:0<=lag/\lag<=5)(hn : -1000<=n/\n<=1000) : -6000<=(n-1)*lag/\(n-1)*lag<=6000:=by
 have:lag=0\/lag=1\/lag=2\/lag=3\/lag=4\/lag=5:=by omega
 rcases this with rfl|rfl|rfl|rfl|rfl|rfl<;>omega
theorem c1G(c:Cf)(t:Tk)(n:Int)(hl:0<=c.lag/\c.lag<=5)(hd : -1000<=t.D/\t.D<=1000)(hn : -1000<=n/\n<=1000):a0A Tryz.prog 82 [eCf c,eT t,.int .i64 n] (.p (.int .i64 (a1d t.D c.lag n))):=by
 have hp:=b6u hl hn
 by_cases h1:n<1
 ·have hb:decide (n<1)=true:=decide_eq_true h1
  have e:a1d t.D c.lag n=0:=by unfold a1d;rw[if_pos (.inl h1)]
  rw[e];refine Fn.run k82 rfl ?_;generalize Tryz.prog=P at *
  (repeat'((conv=>whnf);first|exact trivial|(with_reducible first|refine zX ?_|refine zP ?_|refine zL ?_)|refine⟨rfl,?_⟩|refine⟨_,rfl,?_⟩|refine⟨fun _=>?_,fun _=>?_⟩|refine zn ?_|refine zb rfl ?_|refine zX ?_|refine zo rfl ?_|refine zs ?_|intro _));all_goals(try(conv=>whnf))
  all_goals rfl
 ·have hb:decide (n<1)=false:=decide_eq_false h1
  have w1:IntKind.wrap .i64 (n-1)=n-1:=a0T (by omega) (by omega)
  have w2:IntKind.wrap .i64 ((n-1)*c.lag)=(n-1)*c.lag:=a0T (by omega) (by omega)
  have w3:IntKind.wrap .i64 (t.D-(n-1)*c.lag)=t.D-(n-1)*c.lag:=a0T (by omega) (by omega)
  have hc:=b7a (IntKind.wrap .i64 (t.D-IntKind.wrap .i64 (IntKind.wrap .i64 (n-1)*c.lag))) n (by rw[w1,w2,w3];omega) (by rw[w1,w2,w3];omega) (by omega)
  rw[w1,w2,w3] at hc;rw[<-w3, <-w2, <-w1] at hc
  have e:a1d t.D c.lag n=if (0:Int)>(t.D-(n-1)*c.lag)/n then 0 else (t.D-(n-1)*c.lag)/n:=by
   unfold a1d
   by_cases h2:t.D-(n-1)*c.lag<n
   ·rw[if_pos (.inr h2)]
    by_cases h3:0<=t.D-(n-1)*c.lag
    ·have:(t.D-(n-1)*c.lag)/n=0:=Int.ediv_eq_zero_of_lt h3 h2
     rw[this];rfl
    ·have:(t.D-(n-1)*c.lag)/n<0:=Int.ediv_neg_of_neg_of_pos (by omega) (by omega)
     rw[if_pos this]
   ·rw[if_neg (by omega)]
    have:0<=(t.D-(n-1)*c.lag)/n:=Int.ediv_nonneg (by omega) (by omega)
    rw[if_neg (by omega)]
  rw[e];generalize hq:(t.D-(n-1)*c.lag)/n=q at *;refine Fn.run k82 rfl ?_;generalize Tryz.prog=P at *
  (repeat'((conv=>whnf);first|exact trivial|(with_reducible first|refine zX ?_|refine zP ?_|refine zL ?_)|refine⟨rfl,?_⟩|refine⟨_,rfl,?_⟩|refine⟨fun _=>?_,fun _=>?_⟩|refine zn ?_|refine zb rfl ?_|refine zX ?_|refine zo rfl ?_|refine zs ?_|intro _));all_goals(try(conv=>whnf))
  all_goals (refine a0Y ?_;rw[w1,w2,w3,hq])
open Go.RowKit Ma
open Go.RowKit Ma
theorem c1T(c:Cf)(t:Tk)(hl:t.secs.length<=1000)(hlc:c.res.length<=1000):a0A Tryz.prog 48 [eCf c,eT t] (.p (.bool (t.ok c.res.length))):=by
 have hm:=a0M;have hwi:=fun n=>b8Y n 1 200
 have hwj:=fun n m=>b8Y n 1 m
 unfold Tk.ok
 by_cases hh:b1W t
 ·rw[decide_eq_true hh,Bool.true_and]
  obtain⟨a1,a2,a3,a4,a5⟩:=hh;have b1:decide (t.C<1)=false:=decide_eq_false (by omega)
  have b2:decide (t.D<t.C)=false:=decide_eq_false (by omega)
  have b3:decide (t.T<t.D)=false:=decide_eq_false (by omega)
  have b4:decide (t.T>200)=false:=decide_eq_false (by omega)
  have b5:decide (((t.secs.map eS).length:Int)>2)=false:=decide_eq_false (by simp;omega)
  have hC1:IntKind.wrap .i64 (t.C-1)=t.C-1:=a0T (by omega) (by omega)
  refine Fn.run k48 rfl ?_;generalize Tryz.prog=P at *
  (repeat'((conv=>whnf);first|exact trivial|(with_reducible first|refine zX ?_|refine zP ?_|refine zL ?_)|refine⟨rfl,?_⟩|refine⟨_,rfl,?_⟩|refine⟨fun _=>?_,fun _=>?_⟩|refine zn ?_|refine zb rfl ?_|refine zX ?_|refine zo rfl ?_|refine zs ?_|intro _));all_goals(try(conv=>whnf))
  refine a0O (fun n s=>∃(i:Nat) (last:Int),n+i=t.secs.length/\0<=last/\(i=0->last=0)/\(∀j,i=j+1->∃q,t.secs[j]?=some q/\q.at_=last)/\a5R c.res.length t.C last (t.secs.drop i)=a5R c.res.length t.C 0 t.secs /\
   s=⟨mkT 89 [(2,.addr 0 5 0 0),(3,.addr 1 4 0 0),(5,.p (.int .i64 i))],[some (bCf c true),some (bTk t),none]⟩) t.secs.length ?_ ?_
  ·conv=>whnf
   exact⟨0,0,rfl,Int.le_refl _,fun _=>rfl,(fun j h=>by cases h),rfl,rfl⟩
  ·rintro n st b N ⟨i,last,hi,hlast,hz,hp,hI,e⟩ hN
   cases e
   by_cases hlt:i<t.secs.length
   ·have hrow:(t.secs.map eS)[i]?=some (.agg [.int .i64 t.secs[i].res,.int .i64 t.secs[i].at_,.int .i64 t.secs[i].len]):=by simp[hlt,eS]
    have hb:=a7Y (n:=(t.secs.map eS).length) (by simpa using hlt)
    have hsome:t.secs[i]?=some t.secs[i]:=by simp[hlt]
    rw[List.drop_eq_getElem_cons hlt] at hI;simp only[a5R] at hI;have hw:=hwi t.secs[i].len;have hv:=hwj t.secs[i].at_ (IntKind.wrap .i64 (t.C-1));generalize hsi:t.secs[i]=x at *
    have step:∀y:Bool,(((decide (0<=x.res)&&(decide (x.res<(c.res.length:Int))&&(decide (1<=x.len)&&(decide (x.len<=200)&&(decide (last<x.at_)&&decide (x.at_<t.C))))))=true->y=a5R c.res.length t.C x.at_ (t.secs.drop (i+1))) ->
      ((decide (0<=x.res)&&(decide (x.res<(c.res.length:Int))&&(decide (1<=x.len)&&(decide (x.len<=200)&&(decide (last<x.at_)&&decide (x.at_<t.C))))))=false->y=false)->y=a5R c.res.length t.C 0 t.secs):=by
     intro y h1 h2;rw[<-hI]
     cases hd:(decide (0<=x.res)&&(decide (x.res<(c.res.length:Int))&&(decide (1<=x.len)&&(decide (x.len<=200)&&(decide (last<x.at_)&&decide (x.at_<t.C)))))) with
     |true=>
      rw[h1 hd];simp only[bAt] at hd;simp[hd]
     |false=>
      rw[h2 hd];simp only[Bool.and_eq_false_iff] at hd;rcases hd with h|h|h|h|h|h<;>simp[h]
    by_cases c1:0<=x.res/\x.res<(c.res.length:Int)/\1<=x.len/\x.len<=200/\last<x.at_/\x.at_<t.C
    ·obtain⟨c1,c2,c3,c4,c5,c6⟩:=c1
     have d1:decide (x.res<0)=false:=decide_eq_false (by omega)
     have d2:decide (x.res≥((c.res.map eI).length:Int))=false:=decide_eq_false (by simp;omega)
     have d3:(decide (1<=x.len)&&decide (x.len<=200))=true:=by simp[c3,c4]
     have d4:(decide (1<=x.at_)&&decide (x.at_<=IntKind.wrap .i64 (t.C-1)))=true:=by rw[hC1];simp;omega
     rw[d3] at hw;rw[d4] at hv;rw[decide_eq_true c1,decide_eq_true c2,decide_eq_true c3,decide_eq_true c4,decide_eq_true c5,decide_eq_true c6] at hI;simp only[Bool.true_and] at hI
     cases i with
     |zero=>
      have d5:decide (((0:Nat):Int)>0)=false:=by decide
      (repeat'((conv=>whnf);first|exact trivial|(with_reducible first|refine zX ?_|refine zP ?_|refine zL ?_)|refine⟨rfl,?_⟩|refine⟨_,rfl,?_⟩|refine⟨fun _=>?_,fun _=>?_⟩|refine zn ?_|refine zb rfl ?_|refine zX ?_|refine zo rfl ?_|refine zs ?_|intro _));all_goals(try(conv=>whnf))
      refine hN (n-1) _ (by omega) ⟨1,x.at_,by omega,by omega,(fun h=>by cases h),(fun j hj=>?_),hI,rfl⟩
      have:j=0:=by omega
      subst this;exact⟨x,hsome,rfl⟩
     |succ j=>
      obtain⟨q,hq,hql⟩:=hp j rfl;have hw1:IntKind.wrap .i64 (((j+1:Nat):Int)-1)=(j:Int):=by rw[a0T (by omega) (by omega)];omega
      have d5:decide (((j+1:Nat):Int)>0)=true:=decide_eq_true (by omega)
      have d6:0<=IntKind.wrap .i64 (((j+1:Nat):Int)-1):=by rw[hw1];omega
      have hrow2:(t.secs.map eS)[(IntKind.wrap .i64 (((j+1:Nat):Int)-1)).toNat]?=some (.agg [.int .i64 q.res,.int .i64 q.at_,.int .i64 q.len]):=by
       rw[hw1,Int.toNat_natCast,List.getElem?_map,hq];rfl
      have d7:decide (x.at_<=q.at_)=false:=decide_eq_false (by omega)
      (repeat'((conv=>whnf);first|exact trivial|(with_reducible first|refine zX ?_|refine zP ?_|refine zL ?_)|refine⟨rfl,?_⟩|refine⟨_,rfl,?_⟩|refine⟨fun _=>?_,fun _=>?_⟩|refine zn ?_|refine zb rfl ?_|refine zX ?_|refine zo rfl ?_|refine zs ?_|intro _));all_goals(try(conv=>whnf))
      rw[a2F (n:=t.secs.length) hlt (by omega)]
      refine hN (n-1) _ (by omega) ⟨j+2,x.at_,by omega,by omega,(fun h=>by cases h),(fun k hk=>?_),hI,rfl⟩
      have:k=j+1:=by omega
      subst this;exact⟨x,hsome,rfl⟩
    ·have hfalse:a5R c.res.length t.C 0 t.secs=false:=by
      rw[<-hI];simp only[Bool.and_eq_false_iff,decide_eq_false_iff_not];omega
     rw[hfalse];clear step hI
     cases i with
     |zero=>
      have hz0:=hz rfl;subst hz0;have d5:decide (((0:Nat):Int)>0)=false:=by decide
      have hno:(decide (x.res<0)||(decide (x.res≥((c.res.map eI).length:Int))||(!(decide (1<=x.len)&&decide (x.len<=200)) || !(decide (1<=x.at_)&&decide (x.at_<=IntKind.wrap .i64 (t.C-1))))))=true:=by
       rw[hC1];simp only[Bool.or_eq_true,decide_eq_true_eq,List.length_map,Bool.not_eq_true',Bool.and_eq_false_iff,decide_eq_false_iff_not];omega
      generalize (decide (1<=x.len)&&decide (x.len<=200))=y3 at *;generalize (decide (1<=x.at_)&&decide (x.at_<=IntKind.wrap .i64 (t.C-1)))=y4 at *
      (repeat'((conv=>whnf);first|exact trivial|(with_reducible first|refine zX ?_|refine zP ?_|refine zL ?_)|refine⟨rfl,?_⟩|refine⟨_,rfl,?_⟩|refine⟨fun _=>?_,fun _=>?_⟩|refine zn ?_|refine zb rfl ?_|refine zX ?_|refine zo rfl ?_|refine zs ?_|intro _));all_goals(try(conv=>whnf))
      all_goals first
       |exact a0J rfl
       | (exfalso
          have e1:decide (x.res<0)=false:=by assumption
          have e2:decide (x.res≥((c.res.map eI).length:Int))=false:=by assumption
          have e3:(!y3)=false:=by first|assumption|(simp;assumption)
          have e4:(!y4)=false:=by first|assumption|(simp;assumption)
          rw[e1,e2,e3,e4] at hno;exact absurd hno (by decide))
     |succ j=>
      obtain⟨q,hq,hql⟩:=hp j rfl;have hw1:IntKind.wrap .i64 (((j+1:Nat):Int)-1)=(j:Int):=by rw[a0T (by omega) (by omega)];omega
      have d5:decide (((j+1:Nat):Int)>0)=true:=decide_eq_true (by omega)
      have d6:0<=IntKind.wrap .i64 (((j+1:Nat):Int)-1):=by rw[hw1];omega
      have hrow2:(t.secs.map eS)[(IntKind.wrap .i64 (((j+1:Nat):Int)-1)).toNat]?=some (.agg [.int .i64 q.res,.int .i64 q.at_,.int .i64 q.len]):=by
       rw[hw1,Int.toNat_natCast,List.getElem?_map,hq];rfl
      have hno:(decide (x.res<0)||(decide (x.res≥((c.res.map eI).length:Int))||(!(decide (1<=x.len)&&decide (x.len<=200))||(!(decide (1<=x.at_)&&decide (x.at_<=IntKind.wrap .i64 (t.C-1)))||decide (x.at_<=q.at_)))))=true:=by
       rw[hC1];simp only[Bool.or_eq_true,decide_eq_true_eq,List.length_map,Bool.not_eq_true',Bool.and_eq_false_iff,decide_eq_false_iff_not];omega
      generalize (decide (1<=x.len)&&decide (x.len<=200))=y3 at *;generalize (decide (1<=x.at_)&&decide (x.at_<=IntKind.wrap .i64 (t.C-1)))=y4 at *
      (repeat'((conv=>whnf);first|exact trivial|(with_reducible first|refine zX ?_|refine zP ?_|refine zL ?_)|refine⟨rfl,?_⟩|refine⟨_,rfl,?_⟩|refine⟨fun _=>?_,fun _=>?_⟩|refine zn ?_|refine zb rfl ?_|refine zX ?_|refine zo rfl ?_|refine zs ?_|intro _));all_goals(try(conv=>whnf))
      all_goals first
       |exact a0J rfl
       | (exfalso
          have e1:decide (x.res<0)=false:=by assumption
          have e2:decide (x.res≥((c.res.map eI).length:Int))=false:=by assumption
          have e3:(!y3)=false:=by first|assumption|(simp;assumption)
          have e4:(!y4)=false:=by first|assumption|(simp;assumption)
          have e5:decide (x.at_<=q.at_)=false:=by assumption
          rw[e1,e2,e3,e4,e5] at hno;exact absurd hno (by decide))
   ·have hb:=a8R (n:=(t.secs.map eS).length) (by simpa using hlt)
    rw[List.drop_of_length_le (by omega)] at hI
    rw[<-hI]
    (repeat'((conv=>whnf);first|exact trivial|(with_reducible first|refine zX ?_|refine zP ?_|refine zL ?_)|refine⟨rfl,?_⟩|refine⟨_,rfl,?_⟩|refine⟨fun _=>?_,fun _=>?_⟩|refine zn ?_|refine zb rfl ?_|refine zX ?_|refine zo rfl ?_|refine zs ?_|intro _));all_goals(try(conv=>whnf))
    exact a0J rfl
 ·rw[decide_eq_false hh,Bool.false_and]
  have hno:(decide (t.C<1)||(decide (t.D<t.C)||(decide (t.T<t.D)||(decide (t.T>200)||decide (((t.secs.map eS).length:Int)>2)))))=true:=b4h hh
  refine Fn.run k48 rfl ?_;generalize Tryz.prog=P at *
  (repeat'((conv=>whnf);first|exact trivial|(with_reducible first|refine zX ?_|refine zP ?_|refine zL ?_)|refine⟨rfl,?_⟩|refine⟨_,rfl,?_⟩|refine⟨fun _=>?_,fun _=>?_⟩|refine zn ?_|refine zb rfl ?_|refine zX ?_|refine zo rfl ?_|refine zs ?_|intro _));all_goals(try(conv=>whnf))
  all_goals first
   |exact a0J rfl
   | (exfalso
      have e1:decide (t.C<1)=false:=by assumption
      have e2:decide (t.D<t.C)=false:=by assumption
      have e3:decide (t.T<t.D)=false:=by assumption
      have e4:decide (t.T>200)=false:=by assumption
      have e5:decide (((t.secs.map eS).length:Int)>2)=false:=by assumption
      rw[e1,e2,e3,e4,e5] at hno;exact absurd hno (by decide))
open Go.RowKit Ma
theorem b0O{t:Tk}{n:Int}(h:t.ok n=true):b1W t:=by
 unfold Tk.ok at h;simp only[bAt,decide_eq_true_eq] at h;exact h.1
theorem a7x{c:Cf}(h:c.ok=true):a6M c/\c.res.length<=6:=by
 unfold Cf.ok at h;simp only[bAt,decide_eq_true_eq] at h;exact⟨h.1,h.2.1⟩
theorem b2D{c:Cf}{t:Tk}{n:Int}(hc:c.ok=true)(ht:t.ok n=true):Lim c.cores c.lag c.move t.C t.D t.T:=by
 obtain⟨⟨⟨a1,a2⟩,_,⟨a3,a4⟩,a5,a6⟩,_⟩:=a7x hc;obtain⟨b1,b2,b3,b4,_⟩:=b0O ht;exact⟨a1,a2,a3,a4,a5,a6,b1,b2,b3,b4⟩
theorem c1J{a b:Int}(h:a≠b):(a ==b)=false:=by simpa using h
open Go.RowKit Ma
theorem a6O(l:List Ma.Place):a0l (l.map eQ)=l.map rQ:=by
 induction l with
 |nil=>rfl
 |cons a l ih=>simp only[List.map_cons,a0l,ih];rfl
theorem b8R(l:List Ma.Place):a4m (l.map rQ)=true:=by
 induction l with
 |nil=>rfl
 |cons a l ih=>simp only[List.map_cons,a4m,ih];rfl
theorem a5s(l:List Ma.Place):a0N (l.map rQ)=l.map rQ:=by
 induction l with
 |nil=>rfl
 |cons a l ih=>simp only[List.map_cons,a0N,ih];rfl
theorem b8n(l:List Ma.Place):a4C true (l.map rQ)=some (l.map eQ):=by
 induction l with
 |nil=>rfl
 |cons a l ih=>simp only[List.map_cons,a4C,ih];rfl
noncomputable def a0R (ls:LL) (w T:Int):List Int:=ls.map fun p=>a1m p.2 w T w
theorem b2v{ls:LL}{w T:Int}{i:Nat}(h:i<ls.length):a0R (ls.take (i+1)) w T=a0R (ls.take i) w T++[a1m ls[i].2 w T w]:=by
 unfold a0R;rw[List.take_succ_eq_append_getElem h,List.map_append];rfl
noncomputable def b9S (ls:LL) (w T move:Int) (n:Nat):DV :=
 if (places move (a0R ls w T)).length<n then .ow 2 true [] else .p (.sl 2 false ((a1b (places move (a0R ls w T)) n).map eQ))
theorem c0V(c:Cf)(nl:Bool)(ls:LL)(h:LLok ls)(hfew:ls.length<=12)(t:Tk)(n:Nat)(hn:1<=n)(w:Int)(hw:0<=w) :
  a0A Tryz.prog 84 [eCf c,sLL nl ls,eT t,.int .i64 n,.int .i64 w] (b9S ls w t.T c.move n):=by
 have hm:=a0M;have hft:=fun (p:Bool×List Ld) (hp:p∈ls)=>b9y p.1 p.2 (h.nils p hp) (h.len p hp) w t.T w (by omega)
 unfold b9S;have hpl:=a0u (move:=c.move) (a0R ls w t.T) 0;have hml:(a0R ls w t.T).length=ls.length:=by simp[a0R]
 have hbl:(a1b (places c.move (a0R ls w t.T)) n).length=if (places c.move (a0R ls w t.T)).length<n then 0 else n:=a1s
 have hbd:a1b (places c.move (a0R ls w t.T)) n=if (places c.move (a0R ls w t.T)).length<n then [] else a0w ltC ((a0w ltX (places c.move (a0R ls w t.T))).take n):=rfl
 have hpl0:(places c.move (a0R ls w t.T)).length<=12:=by unfold places;omega
 have hLX:=(a1U ltX (places c.move (a0R ls w t.T)));have h73:=byX (places c.move (a0R ls w t.T)) hpl0 true;have h76:=fun hle:n<=(places c.move (a0R ls w t.T)).length=>byC ((a0w ltX (places c.move (a0R ls w t.T))).take n) (by rw[List.length_take];omega) true
 rw[List.length_take,hLX,List.map_take] at h76;generalize hR:(if (places c.move (a0R ls w t.T)).length<n then DV.ow 2 true [] else .p (.sl 2 false ((a1b (places c.move (a0R ls w t.T)) n).map eQ)))=R
 refine Fn.run k84 (by rw[<-hR];split<;>rfl) ?_
 generalize Tryz.prog=P at *
 (repeat'((conv=>whnf);first|exact trivial|(with_reducible first|refine zX ?_|refine zP ?_|refine zL ?_)|refine⟨rfl,?_⟩|refine⟨_,rfl,?_⟩|refine⟨fun _=>?_,fun _=>?_⟩|refine zn ?_|refine zb rfl ?_|refine zX ?_|refine zo rfl ?_|refine zs ?_|intro _));all_goals(try(conv=>whnf))
 rename_i hlen;refine a0O (fun m s=>∃(i:Nat) (b:Bool),m+i=ls.length/\s=⟨mkT 51 [(3,.p (.int .i64 n)),(4,.p (.int .i64 w)),(5,.addr 0 5 0 0),(7,.addr 1 4 0 0),(11,.ow 2 b ((places c.move (a0R (ls.take i) w t.T)).map eQ)),(15,.p (sLL nl ls)),(16,.p (.int .i64 (ls.map eC).length)),(17,.p (.int .i64 i))],[some (bCf c true),some (bTk t),none]⟩) ls.length ?_ ?_
 ·conv=>whnf
  exact⟨0,true,rfl,rfl⟩
 ·rintro m st bb N ⟨i,b,hi,e⟩ hN
  cases e
  by_cases hil:i<ls.length
  ·have hrow:(ls.map eC)[i]?=some (sL ls[i].1 ls[i].2):=by simp[hil,eC]
   have hb:=a7Y (n:=(ls.map eC).length) (by simpa using hil)
   have hc:=hft ls[i] (List.getElem_mem _);have hpt:=a4r (move:=c.move) (a0R (ls.take i) w t.T) (a1m ls[i].2 w t.T w) 0;rw[<-b2v hil] at hpt;have hml2:(a0R (ls.take i) w t.T).length=i:=by simp[a0R];omega
   have hpl2:=a0u (move:=c.move) (a0R (ls.take i) w t.T) 0;rw[hml2,Int.zero_add] at hpt;rw[hml2] at hpl2
   have hstep:∀{s:St} (b2:Bool),s=⟨mkT 51 [(3,.p (.int .i64 n)),(4,.p (.int .i64 w)),(5,.addr 0 5 0 0),(7,.addr 1 4 0 0),(11,.ow 2 b2 ((places c.move (a0R (ls.take (i+1)) w t.T)).map eQ)),(15,.p (sLL nl ls)),(16,.p (.int .i64 (ls.map eC).length)),(17,.p (.int .i64 (IntKind.wrap .i64 ((i:Int)+1))))],[some (bCf c true),some (bTk t),none]⟩->N s:=fun b2 e=>by
    rw[a2F (n:=ls.length) hil (by omega)] at e
    exact hN (m-1) _ (by omega) ⟨i+1,b2,by omega,e⟩
   clear hN hft h73 h76 hLX hbd hbl hpl0 hR;unfold places at *;generalize a0Q c.move 0 (a0R (ls.take (i+1)) w t.T)=L2 at *;generalize a0Q c.move 0 (a0R (ls.take i) w t.T)=L1 at *;generalize ls[i]=p at *;generalize a1m p.2 w t.T w=v at *
   by_cases hv:c.move<v
   ·have d1:decide (v>c.move)=true:=decide_eq_true hv
    rw[if_pos hv] at hpt
    (repeat'((conv=>whnf);first|exact trivial|(with_reducible first|refine zX ?_|refine zP ?_|refine zL ?_)|refine⟨rfl,?_⟩|refine⟨_,rfl,?_⟩|refine⟨fun _=>?_,fun _=>?_⟩|refine zn ?_|refine zb rfl ?_|refine zX ?_|refine zo rfl ?_|refine zs ?_|intro _));all_goals(try(conv=>whnf))
    all_goals (refine hstep (b&&false) ?_;rw[hpt,List.map_append];rfl)
   ·have d1:decide (v>c.move)=false:=decide_eq_false hv
    rw[if_neg hv,List.append_nil] at hpt
    (repeat'((conv=>whnf);first|exact trivial|(with_reducible first|refine zX ?_|refine zP ?_|refine zL ?_)|refine⟨rfl,?_⟩|refine⟨_,rfl,?_⟩|refine⟨fun _=>?_,fun _=>?_⟩|refine zn ?_|refine zb rfl ?_|refine zX ?_|refine zo rfl ?_|refine zs ?_|intro _));all_goals(try(conv=>whnf))
    all_goals (refine hstep b ?_;rw[hpt];rfl)
  ·have hb:=a8R (i:=i) (n:=(ls.map eC).length) (by simpa using hil)
   rw[List.take_of_length_le (by omega)]
   clear hN hft;generalize places c.move (a0R ls w t.T)=L at *
   by_cases hlt:L.length<n
   ·have d1:decide (((L.map eQ).length:Int)<(n:Int))=true:=decide_eq_true (by simp;omega)
    rw[if_pos hlt] at hR;clear h73 h76
    (repeat'((conv=>whnf);first|exact trivial|(with_reducible first|refine zX ?_|refine zP ?_|refine zL ?_)|refine⟨rfl,?_⟩|refine⟨_,rfl,?_⟩|refine⟨fun _=>?_,fun _=>?_⟩|refine zn ?_|refine zb rfl ?_|refine zX ?_|refine zo rfl ?_|refine zs ?_|intro _));all_goals(try(conv=>whnf))
    all_goals exact hR
   ·have d1:decide (((L.map eQ).length:Int)<(n:Int))=false:=decide_eq_false (by simp;omega)
    rw[if_neg hlt,hbd,if_neg hlt] at hR;have h76:=h76 (by omega)
    rw[Nat.min_eq_left (by omega)] at h76
    have o1:L.map eQ≠[]:=fun e=>by have:=congrArg List.length e;simp at this;subst this;simp at hlt;omega
    have o2:a4m (a0l (L.map eQ))=true:=by rw[a6O];exact b8R L
    have o3:a0h (a0l (L.map eQ))=true:=by rw[a6O];exact a1O L
    have h73':a4f P 131 2 [.bs 0 2 true 0 (L.map eQ).length,.p (.fn 132 [])] (a0l (L.map eQ)) ((a0w ltX L).map rQ) (.tup []):=by rw[a6O,List.length_map];exact h73
    have o4:(0:Int)<=(n:Int):=by omega
    have o5:(n:Int)<=(((L.map eQ).length:Nat):Int):=by simp;omega
    have o6:(n:Int)<=((((a0w ltX L).map rQ).length:Nat):Int):=by simp;omega
    have o7:a0h (((a0w ltX L).map rQ).take (n:Int).toNat)=true:=by rw[Int.toNat_natCast, <-List.map_take];exact a1O _
    have hlen2:(a0w ltC ((a0w ltX L).take n)).length=n:=by rw[a1U,List.length_take];omega
    generalize a0w ltC ((a0w ltX L).take n)=Q at *
    (repeat'((conv=>whnf);first|exact trivial|(with_reducible first|refine zX ?_|refine zP ?_|refine zL ?_)|refine⟨rfl,?_⟩|refine⟨_,rfl,?_⟩|refine⟨fun _=>?_,fun _=>?_⟩|refine zn ?_|refine zb rfl ?_|refine zX ?_|refine zo rfl ?_|refine zs ?_|intro _));all_goals(try(conv=>whnf))
    refine⟨_,_,h73',?_⟩
    (repeat'((conv=>whnf);first|exact trivial|(with_reducible first|refine zX ?_|refine zP ?_|refine zL ?_)|refine⟨rfl,?_⟩|refine⟨_,rfl,?_⟩|refine⟨fun _=>?_,fun _=>?_⟩|refine zn ?_|refine zb rfl ?_|refine zX ?_|refine zo rfl ?_|refine zs ?_|intro _));all_goals(try(conv=>whnf))
    refine⟨_,_,h76,?_⟩
    (repeat'((conv=>whnf);first|exact trivial|(with_reducible first|refine zX ?_|refine zP ?_|refine zL ?_)|refine⟨rfl,?_⟩|refine⟨_,rfl,?_⟩|refine⟨fun _=>?_,fun _=>?_⟩|refine zn ?_|refine zb rfl ?_|refine zX ?_|refine zo rfl ?_|refine zs ?_|intro _));all_goals(try(conv=>whnf))
    refine And.intro (show a0h (a0N (Q.map rQ))=true by rw[a5s];exact a1O Q) ?_
    (repeat'((conv=>whnf);first|exact trivial|(with_reducible first|refine zX ?_|refine zP ?_|refine zL ?_)|refine⟨rfl,?_⟩|refine⟨_,rfl,?_⟩|refine⟨fun _=>?_,fun _=>?_⟩|refine zn ?_|refine zb rfl ?_|refine zX ?_|refine zo rfl ?_|refine zs ?_|intro _));all_goals(try(conv=>whnf))
    all_goals exact b4i (b3z (k:=2) (size:=2) (n:=(n:Int).toNat) (ag:=true) (bx:=⟨false,2,a0N (Q.map rQ),false⟩) rfl ⟨rfl,.inl rfl,rfl,by rw[a5s,List.length_map,Int.toNat_natCast];exact hlen2.symm⟩ (by rw[a5s];exact b8n Q)) hR
theorem b5s(c:Cf)(hc:a6M c)(t:Tk)(hC:0<=t.C/\t.C<=1000)(w:Int)(hw:0<=w/\w<=1000)(nl:Bool)(L:List Ma.Place)(hL:L.length<=12)(hx:∀p,p∈L->c.move<p.x/\p.x<=1000) :
  a0A Tryz.prog 83 [eCf c,eT t,.int .i64 w,.sl 2 nl (L.map eQ)] (.tup [.p (.sl 4 (a0S c.lag w c.move t.C 0 L).1.isEmpty ((a0S c.lag w c.move t.C 0 L).1.map eP)),.p (.bool (decide ((a0S c.lag w c.move t.C 0 L).2=0)&&decide (1<(a0S c.lag w c.move t.C 0 L).1.length)))]):=by
 have hm:=a0M;obtain⟨⟨c1,c2⟩,⟨c3,c4⟩,⟨c5,c6⟩,c7,c8⟩:=hc;generalize hr:a0S c.lag w c.move t.C 0 L=r;have hrow:∀(j:Nat) (hj:j<L.length),(L.map eQ)[j]?=some (.agg [.int .i64 L[j].core,.int .i64 L[j].x]):=fun j hj=>by simp[hj,eQ]
 refine Fn.run k83 rfl ?_;generalize Tryz.prog=P
 (repeat'((conv=>whnf);first|exact trivial|(with_reducible first|refine zX ?_|refine zP ?_|refine zL ?_)|refine⟨rfl,?_⟩|refine⟨_,rfl,?_⟩|refine⟨fun _=>?_,fun _=>?_⟩|refine zn ?_|refine zb rfl ?_|refine zX ?_|refine zo rfl ?_|refine zs ?_|intro _));all_goals(try(conv=>whnf))
 rename_i hlen
 refine a0O (fun n s=>∃(i:Nat) (left:Int) (acc:List Pc),n+i=L.length/\0<=left/\left<=t.C/\acc.length=i/\acc++(a0S c.lag w c.move left i (L.drop i)).1=r.1/\(a0S c.lag w c.move left i (L.drop i)).2=r.2 /\
  s=⟨mkT 65 [(2,.p (.int .i64 w)),(4,.addr 0 5 0 0),(10,.ow 4 acc.isEmpty (acc.map eP)),(11,.p (.int .i64 left)),(18,.p (.sl 2 nl (L.map eQ))),(19,.p (.int .i64 (L.map eQ).length)),(20,.p (.int .i64 i))],[some (bCf c true),some (bTk t),none]⟩) L.length ?_ ?_
 ·conv=>whnf
  exact⟨0,t.C,[],rfl,hC.1,Int.le_refl _,rfl,by rw[<-hr];rfl,by rw[<-hr];rfl,rfl⟩
 ·rintro m st bb N ⟨i,left,acc,hi,hl0,hl1,hacc,hI1,hI2,e⟩ hN
  cases e
  have hemp:(acc.map eP).length=acc.length:=by simp
  by_cases hil:i<L.length
  ·have hb:=a7Y (n:=(L.map eQ).length) (by simpa using hil)
   have hr1:=hrow i hil;obtain⟨x1,x2⟩:=hx L[i] (List.getElem_mem hil);rw[List.drop_eq_getElem_cons hil] at hI1 hI2;unfold a0S at hI1 hI2
   by_cases hz:left=0
   ·have d1:(left ==0)=true:=by simpa using hz
    rw[if_pos hz] at hI1 hI2;simp only[List.append_nil] at hI1;simp only at hI2;subst hI1;have d2:decide (r.2=0)=true:=decide_eq_true (by omega)
    rw[d2];clear hN hrow hx
    (repeat'((conv=>whnf);first|exact trivial|(with_reducible first|refine zX ?_|refine zP ?_|refine zL ?_)|refine⟨rfl,?_⟩|refine⟨_,rfl,?_⟩|refine⟨fun _=>?_,fun _=>?_⟩|refine zn ?_|refine zb rfl ?_|refine zX ?_|refine zo rfl ?_|refine zs ?_|intro _));all_goals(try(conv=>whnf))
    rename_i hh;have d3:decide (((r.1.map eP).length:Int)>1)=decide (1<r.1.length):=by rw[List.length_map];exact decide_eq_decide.2 (by omega)
    (repeat'((conv=>whnf);first|exact trivial|(with_reducible first|refine zX ?_|refine zP ?_|refine zL ?_)|refine⟨rfl,?_⟩|refine⟨_,rfl,?_⟩|refine⟨fun _=>?_,fun _=>?_⟩|refine zn ?_|refine zb rfl ?_|refine zX ?_|refine zo rfl ?_|refine zs ?_|intro _));all_goals(try(conv=>whnf))
    all_goals (rw[d3];rfl)
   ·have d1:(left ==0)=false:=by simpa using hz
    rw[if_neg hz] at hI1 hI2;simp only at hI1 hI2;generalize L[i]=p at *
    have hstep:∀{s:St} (mv use:Int),mv=(if (i:Int)=0 then 0 else c.move)->use=min (p.x-mv) left->s=⟨mkT 65 [(2,.p (.int .i64 w)),(4,.addr 0 5 0 0),(10,.ow 4 (acc.isEmpty&&false) (acc.map eP++[.agg [.int .i64 p.core,.int .i64 (IntKind.wrap .i64 ((i:Int)*IntKind.wrap .i64 (w+c.lag))),.int .i64 w,.int .i64 (IntKind.wrap .i64 (mv+use))]])),(11,.p (.int .i64 (IntKind.wrap .i64 (left-use)))),(18,.p (.sl 2 nl (L.map eQ))),(19,.p (.int .i64 (L.map eQ).length)),(20,.p (.int .i64 (IntKind.wrap .i64 ((i:Int)+1))))],[some (bCf c true),some (bTk t),none]⟩->N s:=fun mv use e1 e2 e=>by
     have hmv:0<=mv/\mv<=c.move:=by rw[e1];split<;>omega
     have hprod:0<=(i:Int)*(w+c.lag)/\(i:Int)*(w+c.lag)<=12*1005:=⟨Int.mul_nonneg (by omega) (by omega),Int.mul_le_mul (by omega) (by omega) (by omega) (by omega)⟩
     rw[a2F (n:=L.length) hil (by omega),a0T (n:=w+c.lag) (by omega) (by omega),a0T (n:=(i:Int)*(w+c.lag)) (by omega) (by omega),a0T (n:=mv+use) (by omega) (by omega),a0T (n:=left-use) (by omega) (by omega)] at e
     rw[<-e1, <-e2] at hI1 hI2;refine hN (m-1) _ (by omega) ⟨i+1,left-use,acc++[⟨p.core,(i:Int)*(w+c.lag),w,mv+use⟩],by omega,by omega,by omega,by simp[hacc],?_,hI2,?_⟩
     ·rw[List.append_assoc];exact hI1
     ·rw[e,Bool.and_false,List.map_append]
      have:(acc++[⟨p.core,(i:Int)*(w+c.lag),w,mv+use⟩]:List Pc).isEmpty=false:=by simp
      rw[this];rfl
    clear hN hrow hx
    cases i with
    |zero=>
     have d2:(((0:Nat):Int) ==0)=true:=rfl;have hu:(if left<IntKind.wrap .i64 (p.x-0) then left else IntKind.wrap .i64 (p.x-0))=min (p.x-0) left:=by rw[a0T (by omega) (by omega)];omega
     (repeat'((conv=>whnf);first|exact trivial|(with_reducible first|refine zX ?_|refine zP ?_|refine zL ?_)|refine⟨rfl,?_⟩|refine⟨_,rfl,?_⟩|refine⟨fun _=>?_,fun _=>?_⟩|refine zn ?_|refine zb rfl ?_|refine zX ?_|refine zo rfl ?_|refine zs ?_|intro _));all_goals(try(conv=>whnf))
     exact hstep 0 _ rfl hu rfl
    |succ i=>
     have d2:(((i+1:Nat):Int) ==0)=false:=c1J (by omega)
     have hu:(if left<IntKind.wrap .i64 (p.x-c.move) then left else IntKind.wrap .i64 (p.x-c.move))=min (p.x-c.move) left:=by rw[a0T (by omega) (by omega)];omega
     (repeat'((conv=>whnf);first|exact trivial|(with_reducible first|refine zX ?_|refine zP ?_|refine zL ?_)|refine⟨rfl,?_⟩|refine⟨_,rfl,?_⟩|refine⟨fun _=>?_,fun _=>?_⟩|refine zn ?_|refine zb rfl ?_|refine zX ?_|refine zo rfl ?_|refine zs ?_|intro _));all_goals(try(conv=>whnf))
     exact hstep c.move _ (by rw[if_neg (by omega)]) hu rfl
  ·have hb:=a8R (i:=i) (n:=(L.map eQ).length) (by simpa using hil)
   rw[List.drop_of_length_le (by omega)] at hI1 hI2
   simp only[a0S,List.append_nil] at hI1 hI2;subst hI1;subst hI2;clear hN hrow hx
   by_cases hz:r.2=0
   ·have d1:(r.2 ==0)=true:=by simpa using hz
    rw[decide_eq_true hz]
    (repeat'((conv=>whnf);first|exact trivial|(with_reducible first|refine zX ?_|refine zP ?_|refine zL ?_)|refine⟨rfl,?_⟩|refine⟨_,rfl,?_⟩|refine⟨fun _=>?_,fun _=>?_⟩|refine zn ?_|refine zb rfl ?_|refine zX ?_|refine zo rfl ?_|refine zs ?_|intro _));all_goals(try(conv=>whnf))
    rename_i hh;have d3:decide (((r.1.map eP).length:Int)>1)=decide (1<r.1.length):=by rw[List.length_map];exact decide_eq_decide.2 (by omega)
    (repeat'((conv=>whnf);first|exact trivial|(with_reducible first|refine zX ?_|refine zP ?_|refine zL ?_)|refine⟨rfl,?_⟩|refine⟨_,rfl,?_⟩|refine⟨fun _=>?_,fun _=>?_⟩|refine zn ?_|refine zb rfl ?_|refine zX ?_|refine zo rfl ?_|refine zs ?_|intro _));all_goals(try(conv=>whnf))
    all_goals (rw[d3];rfl)
   ·have d1:(r.2 ==0)=false:=by simpa using hz
    rw[decide_eq_false hz]
    (repeat'((conv=>whnf);first|exact trivial|(with_reducible first|refine zX ?_|refine zP ?_|refine zL ?_)|refine⟨rfl,?_⟩|refine⟨_,rfl,?_⟩|refine⟨fun _=>?_,fun _=>?_⟩|refine zn ?_|refine zb rfl ?_|refine zX ?_|refine zo rfl ?_|refine zs ?_|intro _));all_goals(try(conv=>whnf))
    all_goals rfl
open Go.RowKit Ma
noncomputable def a5J (c:Cf) (t:Tk) (ls:LL):List Pc:=if t.secs=[] then a2d c.lag c.move t.C t.D t.T (ls.map (·.2)) (c.cores.toNat-1) 2 else []
theorem a6Y(k:Int)(ps:List Pc):(a1J k ps).plain=true:=by unfold a1J;split<;>rfl
theorem a3S{k:Int}{ps:List Pc}(h:ps=[]):a0r [TV.p (.agg [.int .i64 0,.sl 4 true []]),TV.p (.bool false)]=a1J k ps:=by unfold a1J;rw[if_pos h];rfl
theorem a7j{k:Int}{ps qs:List Pc}(h:ps=qs)(h1:0<qs.length):a0r [TV.p (.agg [.int .i64 k,.sl 4 qs.isEmpty (qs.map eP)]),TV.p (.bool true)]=a1J k ps:=by
 subst h;unfold a1J;have:ps≠[]:=fun e=>by subst e;simp at h1
 rw[if_neg this,List.isEmpty_eq_false_iff.2 this];rfl
theorem b6x(ls:LL)(w T:Int):((ls.map (·.2)).map fun l=>a1m l w T w)=a0R ls w T:=by rw[List.map_map];rfl
theorem c1g{ls:LL}{w T move:Int}{n:Nat}(hm:0<=move)(hw:w<=200):∀p,p∈a1b (places move (a0R ls w T)) n->move<p.x/\p.x<=1000:=by
 intro p hp;obtain⟨h1,h2,h3⟩:=b9o hp;refine⟨h3,?_⟩;unfold a0R at h2;rw[List.getElem?_map] at h2
 cases hl:ls[p.core.toNat]? with
 |none=>rw[hl] at h2;simp at h2
 |some q=>
  rw[hl] at h2;simp only[Option.map_some,sIj] at h2;have:=(a6B q.2 w T w).2 (by omega)
  omega
theorem b6j{ls:LL}{w T move:Int}{n:Nat}(hf:ls.length<=12):(a1b (places move (a0R ls w T)) n).length<=12:=by
 rw[a1s];have hpl:=a0u (move:=move) (a0R ls w T) 0;have hml:(a0R ls w T).length=ls.length:=by simp[a0R]
 unfold places
 split<;>omega
theorem b8x(c:Cf)(hc:c.ok=true)(t:Tk)(ht:t.ok c.res.length=true)(nl:Bool)(ls:LL)(h:LLok ls)(hls:(ls.length:Int)=c.cores) :
  a0A Tryz.prog 50 [eCf c,sLL nl ls,eT t] (a1J 2 (a5J c t ls)):=by
 have hm:=a0M;obtain⟨hh,hrl⟩:=a7x hc;have hth:=b0O ht;have hsl:t.secs.length<=2:=hth.2.2.2.2;have h50:=b1t c (by omega)
 have h51:=b7v c t (by omega)
 rw[hc] at h50;rw[ht] at h51;obtain⟨⟨c1,c2⟩,⟨c3,c4⟩,⟨c5,c6⟩,c7,c8⟩:=id hh;obtain⟨t1,t2,t3,t4,t5⟩:=hth;have h30:=fun (n:Nat) (hn:n<=12)=>c1G c t n ⟨c5,c6⟩ (by omega) (by omega)
 have h55:=fun (n:Nat) (hn:1<=n) (w:Int) (hw:0<=w)=>c0V c nl ls h (by omega) t n hn w hw
 have h54:=fun (w:Int) (hw:0<=w/\w<=1000) (b:Bool) (L:List Ma.Place) (hL:L.length<=12) hx=>b5s c hh t (by omega) w hw b L hL hx
 simp only[eCf,eT] at h50 h51 h30 h55 h54;have g1:(((ls.map eC).length:Int) !=c.cores)=false:=by simp[hls]
 have hnone:∀{W:List Pc},a5J c t ls=W->W=[]->a0r [TV.p (.agg [.int .i64 0,.sl 4 true []]),TV.p (.bool false)]=a1J 2 (a5J c t ls):=fun e1 e2=>a3S (e1.trans e2)
 by_cases hs:t.secs=[]
 case neg=>
  have g2:decide (((t.secs.map eS).length:Int)>0)=true:=decide_eq_true (by have:=List.length_pos_iff.2 hs;simp;omega)
  have hW:a5J c t ls=[]:=by unfold a5J;rw[if_neg hs]
  have hN:=hnone hW rfl;generalize a1J 2 (a5J c t ls)=R at *;have hR:R.plain=true:=by rw[<-hN];rfl
  clear h30 h55 h54;refine Fn.run k50 hR ?_;generalize Tryz.prog=P at *
  (repeat'((conv=>whnf);first|exact trivial|(with_reducible first|refine zX ?_|refine zP ?_|refine zL ?_)|refine⟨rfl,?_⟩|refine⟨_,rfl,?_⟩|refine⟨fun _=>?_,fun _=>?_⟩|refine zn ?_|refine zb rfl ?_|refine zX ?_|refine zo rfl ?_|refine zs ?_|intro _));all_goals(try(conv=>whnf))
  all_goals exact hN
 have g2:decide (((t.secs.map eS).length:Int)>0)=false:=decide_eq_false (by rw[hs];simp)
 have hW:a5J c t ls=a2d c.lag c.move t.C t.D t.T (ls.map (·.2)) (c.cores.toNat-1) 2:=by unfold a5J;rw[if_pos hs]
 have hsome:∀{L:List Pc},a5J c t ls=L->1<L.length->a0r [TV.p (.agg [.int .i64 2,.sl 4 L.isEmpty (L.map eP)]),TV.p (.bool true)]=a1J 2 (a5J c t ls):=fun e1 e2=>a7j e1 (by omega)
 have hR:=a6Y 2 (a5J c t ls);generalize a1J 2 (a5J c t ls)=R at *;generalize a5J c t ls=W at *;refine Fn.run k50 hR ?_;generalize Tryz.prog=P at *
 (repeat'((conv=>whnf);first|exact trivial|(with_reducible first|refine zX ?_|refine zP ?_|refine zL ?_)|refine⟨rfl,?_⟩|refine⟨_,rfl,?_⟩|refine⟨fun _=>?_,fun _=>?_⟩|refine zn ?_|refine zb rfl ?_|refine zX ?_|refine zo rfl ?_|refine zs ?_|intro _));all_goals(try(conv=>whnf))
 refine a0O (fun m s=>∃i:Nat,m+i=c.cores.toNat+1/\2<=i/\W=a2d c.lag c.move t.C t.D t.T (ls.map (·.2)) (c.cores.toNat+1-i) i /\
  s=⟨mkT 64 [(1,.p (sLL nl ls)),(3,.addr 0 5 0 0),(5,.addr 1 4 0 0),(6,.addr 2 2 0 0),(8,.p (.int .i64 i))],[some (bCf c true),some (bTk t),some ⟨true,2,[[.p (.int .i64 0),.ow 4 true []]],false⟩]⟩) (c.cores.toNat-1) ?_ ?_
 ·conv=>whnf
  exact⟨2,by omega,Nat.le_refl _,hW,rfl⟩
 ·rintro m st bb N ⟨i,hi,hi2,hI,e⟩ hN
  cases e
  by_cases hil:(i:Int)<=c.cores
  ·have hb:decide ((i:Int)<=c.cores)=true:=decide_eq_true hil
   rw[show c.cores.toNat+1-i=(c.cores.toNat-i)+1 by omega] at hI
   simp only[a2d,b6x] at hI;have hsz:=h30 i (by omega)
   have hbd:=@a6U c.lag t.D i;generalize a1d t.D c.lag i=w at *
   by_cases hz:w=0
   ·have d1:(w ==0)=true:=by simpa using hz
    rw[if_pos hz] at hI;clear hN h55 h54 h30
    (repeat'((conv=>whnf);first|exact trivial|(with_reducible first|refine zX ?_|refine zP ?_|refine zL ?_)|refine⟨rfl,?_⟩|refine⟨_,rfl,?_⟩|refine⟨fun _=>?_,fun _=>?_⟩|refine zn ?_|refine zb rfl ?_|refine zX ?_|refine zo rfl ?_|refine zs ?_|intro _));all_goals(try(conv=>whnf))
    all_goals exact hnone hI rfl
   ·have d1:(w ==0)=false:=by simpa using hz
    rw[if_neg hz] at hI;have hbd:=hbd hz
    have hw2:w<=200:=by
     have:1*w<=(i:Int)*w:=Int.mul_le_mul_of_nonneg_right (by omega) (by omega)
     have:0<=((i:Int)-1)*c.lag:=Int.mul_nonneg (by omega) c5
     omega
    have hb55:=h55 i (by omega) w (by omega)
    have hx:=@c1g ls w t.T c.move i c7 hw2;have hfw:=@b6j ls w t.T c.move i (by omega)
    have hstep:∀{s:St},W=a2d c.lag c.move t.C t.D t.T (ls.map (·.2)) (c.cores.toNat-i) (i+1)->s=⟨mkT 64 [(1,.p (sLL nl ls)),(3,.addr 0 5 0 0),(5,.addr 1 4 0 0),(6,.addr 2 2 0 0),(8,.p (.int .i64 (IntKind.wrap .i64 ((i:Int)+1))))],[some (bCf c true),some (bTk t),some ⟨true,2,[[.p (.int .i64 0),.ow 4 true []]],false⟩]⟩->N s:=fun k e=>by
     rw[a2F (n:=i+1) (by omega) (by omega)] at e
     exact hN (m-1) _ (by omega) ⟨i+1,by omega,by omega,by rw[show c.cores.toNat+1-(i+1)=c.cores.toNat-i by omega];exact k,e⟩
    unfold b9S at hb55;have hbv:(places c.move (a0R ls w t.T)).length<i->a1b (places c.move (a0R ls w t.T)) i=[]:=fun hlt=>by unfold a1b;rw[if_pos hlt]
    clear hN h55 h30
    by_cases hfew:(places c.move (a0R ls w t.T)).length<i
    ·rw[if_pos hfew] at hb55
     rw[hbv hfew] at hI;have hp:=h54 w (by omega) true [] (by simp) (fun p hp=>by simp at hp)
     rw[if_neg (by simp[a0S])] at hI
     clear h54 hx hfw hbv;simp only[a0S,List.map_nil,List.isEmpty_nil,List.length_nil,Nat.not_lt_zero,decide_false,Bool.and_false] at hp
     (repeat'((conv=>whnf);first|exact trivial|(with_reducible first|refine zX ?_|refine zP ?_|refine zL ?_)|refine⟨rfl,?_⟩|refine⟨_,rfl,?_⟩|refine⟨fun _=>?_,fun _=>?_⟩|refine zn ?_|refine zb rfl ?_|refine zX ?_|refine zo rfl ?_|refine zs ?_|intro _));all_goals(try(conv=>whnf))
     exact hstep hI rfl
    ·rw[if_neg hfew] at hb55
     have hp:=h54 w (by omega) false _ hfw hx
     clear h54 hx hfw hbv;generalize a0S c.lag w c.move t.C 0 (a1b (places c.move (a0R ls w t.T)) i)=r at *;obtain⟨r1,r2⟩:=r;simp only at hI hp
     by_cases hok:r2=0/\1<r1.length
     ·rw[if_pos hok] at hI
      have d2:(decide (r2=0)&&decide (1<r1.length))=true:=by simp[hok]
      rw[d2] at hp
      (repeat'((conv=>whnf);first|exact trivial|(with_reducible first|refine zX ?_|refine zP ?_|refine zL ?_)|refine⟨rfl,?_⟩|refine⟨_,rfl,?_⟩|refine⟨fun _=>?_,fun _=>?_⟩|refine zn ?_|refine zb rfl ?_|refine zX ?_|refine zo rfl ?_|refine zs ?_|intro _));all_goals(try(conv=>whnf))
      all_goals exact hsome hI hok.2
     ·rw[if_neg hok] at hI
      have d2:(decide (r2=0)&&decide (1<r1.length))=false:=by
       rw[Bool.and_eq_false_iff,decide_eq_false_iff_not,decide_eq_false_iff_not];omega
      rw[d2] at hp
      (repeat'((conv=>whnf);first|exact trivial|(with_reducible first|refine zX ?_|refine zP ?_|refine zL ?_)|refine⟨rfl,?_⟩|refine⟨_,rfl,?_⟩|refine⟨fun _=>?_,fun _=>?_⟩|refine zn ?_|refine zb rfl ?_|refine zX ?_|refine zo rfl ?_|refine zs ?_|intro _));all_goals(try(conv=>whnf))
      exact hstep hI rfl
  ·have hb:decide ((i:Int)<=c.cores)=false:=decide_eq_false hil
   rw[show c.cores.toNat+1-i=0 by omega] at hI
   clear hN h55 h54 h30
   (repeat'((conv=>whnf);first|exact trivial|(with_reducible first|refine zX ?_|refine zP ?_|refine zL ?_)|refine⟨rfl,?_⟩|refine⟨_,rfl,?_⟩|refine⟨fun _=>?_,fun _=>?_⟩|refine zn ?_|refine zb rfl ?_|refine zX ?_|refine zo rfl ?_|refine zs ?_|intro _));all_goals(try(conv=>whnf))
   all_goals exact hnone hI rfl
open Go.RowKit Ma
open Go.RowKit Ma
noncomputable def a5i (c:Cf) (t:Tk) (ls:LL):List Pc:=if t.secs=[] then b3L c.lag c.move t.C t.D t.T (ls.map (·.2)) else []
theorem b1a{ls:LL}{a:Nat}(h:a<ls.length):(ls.map (·.2))[a]?.getD []=ls[a].2:=by simp[h]
theorem b8N{lag move C D T:Int}{ls:LL}{a b:Nat}(ha:a<ls.length)(hb:b<ls.length)(hab:a≠b):a8Q lag move C D T (ls.map (·.2)) a b =
  if 1<=a0e ls[a].2 T (C-1)/\C-a0e ls[a].2 T (C-1)+move<=D-a0e ls[a].2 T (C-1)-lag/\a1W (ls[b].2++[⟨C-a0e ls[a].2 T (C-1)+move,D-a0e ls[a].2 T (C-1)-lag,T⟩])=true then
   [⟨a,0,a0e ls[a].2 T (C-1),a0e ls[a].2 T (C-1)⟩,⟨b,a0e ls[a].2 T (C-1)+lag,D-a0e ls[a].2 T (C-1)-lag,C-a0e ls[a].2 T (C-1)+move⟩] else []:=by
 unfold a8Q;rw[if_neg hab,b1a ha,b1a hb]
 rfl
theorem b5S{lag move C D T:Int}{ls:List (List Ld)}{a:Nat}:a8Q lag move C D T ls a a=[]:=by unfold a8Q;rw[if_pos rfl]
structure Small (c:Cf) (t:Tk):Prop where
 l:0<=c.lag/\c.lag<=5
 m:0<=c.move/\c.move<=5
 C:1<=t.C/\t.C<=200
 D:1<=t.D/\t.D<=200
theorem b0u{l:List Ld}{T C:Int}(hC:C<=200):0<=a0e l T (C-1)/\a0e l T (C-1)<=200:=by
 obtain⟨h1,h2⟩:=a5C l T (C-1)
 by_cases h:a0e l T (C-1)=0
 ·omega
 ·have:=h2 h;omega
theorem c1O(c:Cf)(t:Tk)(hs:Small c t)(nl:Bool)(ls:LL)(h:LLok ls)(a b:Nat)(ha:a<ls.length)(hb:b<ls.length)(hab:a≠b) :
  a0A Tryz.prog 85 [eCf c,sLL nl ls,eT t,.int .i64 a,.int .i64 b] (a1J 3 (a8Q c.lag c.move t.C t.D t.T (ls.map (·.2)) a b)):=by
 have hm:=a0M;obtain⟨⟨l1,l2⟩,⟨m1,m2⟩,⟨C1,C2⟩,D1,D2⟩:=hs;obtain⟨x1,x2⟩:=@b0u ls[a].2 t.T t.C C2;have w0:IntKind.wrap .i64 (t.C-1)=t.C-1:=a0T (by omega) (by omega)
 have h79:=b3m ls[a].1 ls[a].2 (h.nils _ (List.getElem_mem ha)) (h.len _ (List.getElem_mem ha)) t.T (t.C-1);have h48:=b0z ls[b].1 ls[b].2 (h.nils _ (List.getElem_mem hb)) (h.len _ (List.getElem_mem hb));have hql:=h.len _ (List.getElem_mem hb);have h47:=fun x:Ld=>a9p false (ls[b].2++[x])
 have hra:(ls.map eC)[a]?=some (sL ls[a].1 ls[a].2):=by simp[ha,eC]
 have hrb:(ls.map eC)[b]?=some (sL ls[b].1 ls[b].2):=by simp[hb,eC]
 rw[b8N ha hb hab];generalize a0e ls[a].2 t.T (t.C-1)=x at *;rw[<-w0] at h79;generalize ls[a]=p at *;generalize ls[b]=q at *;have w1:IntKind.wrap .i64 (IntKind.wrap .i64 (t.C-x)+c.move)=t.C-x+c.move:=by rw[a0T (n:=t.C-x) (by omega) (by omega),a0T (by omega) (by omega)]
 have w2:IntKind.wrap .i64 (IntKind.wrap .i64 (t.D-x)-c.lag)=t.D-x-c.lag:=by rw[a0T (n:=t.D-x) (by omega) (by omega),a0T (by omega) (by omega)]
 have w3:IntKind.wrap .i64 (x+c.lag)=x+c.lag:=a0T (by omega) (by omega)
 have h47':a0A Tryz.prog 136 [.sl 3 (q.1&&false) (q.2.map eL++[.agg [.int .i64 (IntKind.wrap .i64 (IntKind.wrap .i64 (t.C-x)+c.move)),.int .i64 (IntKind.wrap .i64 (IntKind.wrap .i64 (t.D-x)-c.lag)),.int .i64 t.T]])] (.p (.bool (a1W (q.2++[⟨t.C-x+c.move,t.D-x-c.lag,t.T⟩])))):=by
  have:=h47 ⟨t.C-x+c.move,t.D-x-c.lag,t.T⟩;rw[sL,List.map_append] at this;rw[Bool.and_false,w1,w2];exact this
 clear h47;have hno:∀{W:List Pc},W=[]->a0r [TV.p (.agg [.int .i64 0,.sl 4 true []]),TV.p (.bool false)]=a1J 3 W:=fun e=>a3S e
 by_cases k1:x<1
 ·have d1:decide (x<1)=true:=decide_eq_true k1
  rw[if_neg (by omega)]
  have hf:=hno (W:=[]) rfl;refine Fn.run k85 rfl ?_;generalize Tryz.prog=P at *
  (repeat'((conv=>whnf);first|exact trivial|(with_reducible first|refine zX ?_|refine zP ?_|refine zL ?_)|refine⟨rfl,?_⟩|refine⟨_,rfl,?_⟩|refine⟨fun _=>?_,fun _=>?_⟩|refine zn ?_|refine zb rfl ?_|refine zX ?_|refine zo rfl ?_|refine zs ?_|intro _));all_goals(try(conv=>whnf))
  all_goals exact hf
 have d1:decide (x<1)=false:=decide_eq_false k1
 by_cases k2:t.C-x+c.move>t.D-x-c.lag
 ·have d2:decide (IntKind.wrap .i64 (IntKind.wrap .i64 (t.C-x)+c.move)>IntKind.wrap .i64 (IntKind.wrap .i64 (t.D-x)-c.lag))=true:=decide_eq_true (by rw[w1,w2];exact k2)
  rw[if_neg (by omega)]
  have hf:=hno (W:=[]) rfl;refine Fn.run k85 rfl ?_;generalize Tryz.prog=P at *
  (repeat'((conv=>whnf);first|exact trivial|(with_reducible first|refine zX ?_|refine zP ?_|refine zL ?_)|refine⟨rfl,?_⟩|refine⟨_,rfl,?_⟩|refine⟨fun _=>?_,fun _=>?_⟩|refine zn ?_|refine zb rfl ?_|refine zX ?_|refine zo rfl ?_|refine zs ?_|intro _));all_goals(try(conv=>whnf))
  all_goals exact hf
 have d2:decide (IntKind.wrap .i64 (IntKind.wrap .i64 (t.C-x)+c.move)>IntKind.wrap .i64 (IntKind.wrap .i64 (t.D-x)-c.lag))=false:=decide_eq_false (by rw[w1,w2];exact k2)
 cases k3:a1W (q.2++[⟨t.C-x+c.move,t.D-x-c.lag,t.T⟩]) with
 |false=>
  rw[k3] at h47';rw[if_neg (by rintro⟨_,_,e⟩;cases e)]
  have hf:=hno (W:=[]) rfl;refine Fn.run k85 rfl ?_;generalize Tryz.prog=P at *
  (repeat'((conv=>whnf);first|exact trivial|(with_reducible first|refine zX ?_|refine zP ?_|refine zL ?_)|refine⟨rfl,?_⟩|refine⟨_,rfl,?_⟩|refine⟨fun _=>?_,fun _=>?_⟩|refine zn ?_|refine zb rfl ?_|refine zX ?_|refine zo rfl ?_|refine zs ?_|intro _));all_goals(try(conv=>whnf))
  all_goals exact hf
 |true=>
  rw[k3] at h47';rw[if_pos ⟨by omega,by omega,rfl⟩]
  have hf:a0r [TV.p (.agg [.int .i64 3,.sl 4 false [.agg [.int .i64 a,.int .i64 0,.int .i64 x,.int .i64 x],.agg [.int .i64 b,.int .i64 (IntKind.wrap .i64 (x+c.lag)),.int .i64 (IntKind.wrap .i64 (IntKind.wrap .i64 (t.D-x)-c.lag)),.int .i64 (IntKind.wrap .i64 (IntKind.wrap .i64 (t.C-x)+c.move))]]]),TV.p (.bool true)] =
    a1J 3 [⟨a,0,x,x⟩,⟨b,x+c.lag,t.D-x-c.lag,t.C-x+c.move⟩]:=by rw[w1,w2,w3];rfl
  refine Fn.run k85 rfl ?_;generalize Tryz.prog=P at *
  (repeat'((conv=>whnf);first|exact trivial|(with_reducible first|refine zX ?_|refine zP ?_|refine zL ?_)|refine⟨rfl,?_⟩|refine⟨_,rfl,?_⟩|refine⟨fun _=>?_,fun _=>?_⟩|refine zn ?_|refine zb rfl ?_|refine zX ?_|refine zo rfl ?_|refine zs ?_|intro _));all_goals(try(conv=>whnf))
  all_goals exact hf
theorem a6v{f:Nat->List Pc}{n i:Nat}(h:i<n){R:List Pc}(hR:a0c f (n-i) i=R):(f i=[]->a0c f (n-(i+1)) (i+1)=R)/\(f i≠[]->f i=R):=by
 rw[show n-i=(n-(i+1))+1 by omega] at hR
 simp only[a0c] at hR
 exact⟨fun e=>by rw[if_pos e] at hR;exact hR,fun e=>by rw[if_neg e] at hR;exact hR⟩
theorem b0A{f:Nat->List Pc}{n i:Nat}(h:¬i<n){R:List Pc}(hR:a0c f (n-i) i=R):R=[]:=by
 rw[show n-i=0 by omega] at hR
 exact hR.symm
theorem c0w(c:Cf)(hc:c.ok=true)(t:Tk)(ht:t.ok c.res.length=true)(nl:Bool)(ls:LL)(h:LLok ls)(hls:(ls.length:Int)=c.cores) :
  a0A Tryz.prog 51 [eCf c,sLL nl ls,eT t] (a1J 3 (a5i c t ls)):=by
 have hm:=a0M;obtain⟨hh,hrl⟩:=a7x hc;have hth:=b0O ht;have hsl:t.secs.length<=2:=hth.2.2.2.2;have h50:=b1t c (by omega)
 have h51:=b7v c t (by omega)
 rw[hc] at h50;rw[ht] at h51;obtain⟨⟨c1,c2⟩,⟨c3,c4⟩,⟨c5,c6⟩,c7,c8⟩:=id hh;obtain⟨t1,t2,t3,t4,t5⟩:=hth;have h59:=fun (a b:Nat) ha hb hab=>c1O c t ⟨⟨c5,c6⟩,⟨c7,c8⟩,by omega,by omega⟩ nl ls h a b ha hb hab
 simp only[eCf,eT] at h50 h51 h59;have g1:(((ls.map eC).length:Int) !=c.cores)=false:=by simp[hls]
 by_cases hs:t.secs=[]
 case neg=>
  have g2:decide (((t.secs.map eS).length:Int)>0)=true:=decide_eq_true (by have:=List.length_pos_iff.2 hs;simp;omega)
  have hW:a5i c t ls=[]:=by unfold a5i;rw[if_neg hs]
  have hN:=a3S (k:=3) hW;generalize a1J 3 (a5i c t ls)=R at *;have hR:R.plain=true:=by rw[<-hN];rfl
  clear h59;refine Fn.run k51 hR ?_;generalize Tryz.prog=P at *
  (repeat'((conv=>whnf);first|exact trivial|(with_reducible first|refine zX ?_|refine zP ?_|refine zL ?_)|refine⟨rfl,?_⟩|refine⟨_,rfl,?_⟩|refine⟨fun _=>?_,fun _=>?_⟩|refine zn ?_|refine zb rfl ?_|refine zX ?_|refine zo rfl ?_|refine zs ?_|intro _));all_goals(try(conv=>whnf))
  all_goals exact hN
 have g2:decide (((t.secs.map eS).length:Int)>0)=false:=decide_eq_false (by rw[hs];simp)
 have hW:a5i c t ls=b3L c.lag c.move t.C t.D t.T (ls.map (·.2)):=by unfold a5i;rw[if_pos hs]
 unfold b3L at hW;rw[List.length_map] at hW;have hnone:=fun e=>a3S (k:=3) (ps:=a5i c t ls) e
 have hsome:=fun (L:List Pc) (e:a5i c t ls=L) (e2:L≠[])=>a7j (k:=3) e (List.length_pos_iff.2 e2)
 have hR:=a6Y 3 (a5i c t ls);have hf0:∀L:List Pc,L≠[]->L.isEmpty=false:=fun L e=>List.isEmpty_eq_false_iff.2 e
 generalize a1J 3 (a5i c t ls)=R at *;generalize a5i c t ls=W at *;have hsame:∀b,a8Q c.lag c.move t.C t.D t.T (ls.map (·.2)) b b=[]:=fun b=>b5S
 generalize a8Q c.lag c.move t.C t.D t.T (ls.map (·.2))=f at *
 refine Fn.run k51 hR ?_;generalize Tryz.prog=P at *
 (repeat'((conv=>whnf);first|exact trivial|(with_reducible first|refine zX ?_|refine zP ?_|refine zL ?_)|refine⟨rfl,?_⟩|refine⟨_,rfl,?_⟩|refine⟨fun _=>?_,fun _=>?_⟩|refine zn ?_|refine zb rfl ?_|refine zX ?_|refine zo rfl ?_|refine zs ?_|intro _));all_goals(try(conv=>whnf))
 rename_i hlen
 refine a0O (fun m s=>∃a:Nat,m+a=ls.length/\a0c (fun a=>a0c (f a) ls.length 0) (ls.length-a) a=W /\
  s=⟨mkT 62 [(1,.p (sLL nl ls)),(3,.addr 0 5 0 0),(5,.addr 1 4 0 0),(6,.addr 2 2 0 0),(36,.p (.int .i64 (ls.map eC).length)),(37,.p (.int .i64 a))],[some (bCf c true),some (bTk t),some ⟨true,2,[[.p (.int .i64 0),.ow 4 true []]],false⟩,none]⟩) ls.length ?_ ?_
 ·conv=>whnf
  exact⟨0,rfl,hW.symm,rfl⟩
 ·rintro m st bb N ⟨a,hi,hI,e⟩ hN
  cases e
  by_cases hal:a<ls.length
  ·have hb:=a7Y (n:=(ls.map eC).length) (i:=a) (by simpa using hal)
   have hst:=a6v hal hI
   (repeat'((conv=>whnf);first|exact trivial|(with_reducible first|refine zX ?_|refine zP ?_|refine zL ?_)|refine⟨rfl,?_⟩|refine⟨_,rfl,?_⟩|refine⟨fun _=>?_,fun _=>?_⟩|refine zn ?_|refine zb rfl ?_|refine zX ?_|refine zo rfl ?_|refine zs ?_|intro _));all_goals(try(conv=>whnf))
   refine a0O (fun m s=>∃b:Nat,m+b=ls.length/\a0c (f a) (ls.length-b) b=a0c (f a) ls.length 0 /\
    s=⟨mkT 62 [(1,.p (sLL nl ls)),(3,.addr 0 5 0 0),(5,.addr 1 4 0 0),(6,.addr 2 2 0 0),(8,.p (.int .i64 a)),(36,.p (.int .i64 (ls.map eC).length)),(37,.p (.int .i64 a)),(41,.p (.int .i64 (ls.map eC).length)),(42,.p (.int .i64 b))],[some (bCf c true),some (bTk t),some ⟨true,2,[[.p (.int .i64 0),.ow 4 true []]],false⟩,none]⟩) ls.length ?_ ?_
   ·conv=>whnf
    exact⟨0,rfl,rfl,rfl⟩
   ·rintro m2 st2 bb2 N2 ⟨b,hi2,hI2,e⟩ hN2
    cases e
    by_cases hbl:b<ls.length
    ·have hb2:=a7Y (n:=(ls.map eC).length) (i:=b) (by simpa using hbl)
     have hst2:=a6v hbl hI2
     have hstep:∀{s:St},f a b=[]->s=⟨mkT 62 [(1,.p (sLL nl ls)),(3,.addr 0 5 0 0),(5,.addr 1 4 0 0),(6,.addr 2 2 0 0),(8,.p (.int .i64 a)),(36,.p (.int .i64 (ls.map eC).length)),(37,.p (.int .i64 a)),(41,.p (.int .i64 (ls.map eC).length)),(42,.p (.int .i64 (IntKind.wrap .i64 ((b:Int)+1))))],[some (bCf c true),some (bTk t),some ⟨true,2,[[.p (.int .i64 0),.ow 4 true []]],false⟩,none]⟩->N2 s:=fun k e=>by
      rw[a2F (n:=ls.length) hbl (by omega)] at e
      exact hN2 (m2-1) _ (by omega) ⟨b+1,by omega,hst2.1 k,e⟩
     by_cases hab:a=b
     ·have d1:((a:Int) ==(b:Int))=true:=by simp[hab]
      have hfe:f a b=[]:=by rw[hab];exact hsame b
      clear hN hN2 h59
      (repeat'((conv=>whnf);first|exact trivial|(with_reducible first|refine zX ?_|refine zP ?_|refine zL ?_)|refine⟨rfl,?_⟩|refine⟨_,rfl,?_⟩|refine⟨fun _=>?_,fun _=>?_⟩|refine zn ?_|refine zb rfl ?_|refine zX ?_|refine zo rfl ?_|refine zs ?_|intro _));all_goals(try(conv=>whnf))
      exact hstep hfe rfl
     ·have d1:((a:Int) ==(b:Int))=false:=by simp;omega
      have hp:=h59 a b hal hbl hab;generalize hL:f a b=L at *;unfold a1J at hp;clear hN hN2 h59
      by_cases hLe:L=[]
      ·rw[if_pos hLe] at hp
       simp only[ePl] at hp
       (repeat'((conv=>whnf);first|exact trivial|(with_reducible first|refine zX ?_|refine zP ?_|refine zL ?_)|refine⟨rfl,?_⟩|refine⟨_,rfl,?_⟩|refine⟨fun _=>?_,fun _=>?_⟩|refine zn ?_|refine zb rfl ?_|refine zX ?_|refine zo rfl ?_|refine zs ?_|intro _));all_goals(try(conv=>whnf))
       exact hstep hLe rfl
      ·rw[if_neg hLe] at hp
       simp only[ePl] at hp;have hfa:=hst2.2 hLe
       have hWL:W=L:=by
        have:=hst.2 (by rw[<-hfa];exact hLe)
        rw[<-this, <-hfa]
       have hfin:=hsome L hWL hLe;rw[hf0 L hLe] at hfin
       (repeat'((conv=>whnf);first|exact trivial|(with_reducible first|refine zX ?_|refine zP ?_|refine zL ?_)|refine⟨rfl,?_⟩|refine⟨_,rfl,?_⟩|refine⟨fun _=>?_,fun _=>?_⟩|refine zn ?_|refine zb rfl ?_|refine zX ?_|refine zo rfl ?_|refine zs ?_|intro _));all_goals(try(conv=>whnf))
       all_goals exact hfin
    ·have hb2:=a8R (n:=(ls.map eC).length) (i:=b) (by simpa using hbl)
     have hfa:=b0A hbl hI2
     clear hN2 h59
     (repeat'((conv=>whnf);first|exact trivial|(with_reducible first|refine zX ?_|refine zP ?_|refine zL ?_)|refine⟨rfl,?_⟩|refine⟨_,rfl,?_⟩|refine⟨fun _=>?_,fun _=>?_⟩|refine zn ?_|refine zb rfl ?_|refine zX ?_|refine zo rfl ?_|refine zs ?_|intro _));all_goals(try(conv=>whnf))
     rw[a2F (n:=ls.length) hal (by omega)]
     exact hN (m-1) _ (by omega) ⟨a+1,by omega,hst.1 hfa,rfl⟩
  ·have hb:=a8R (n:=(ls.map eC).length) (i:=a) (by simpa using hal)
   have hWe:=b0A hal hI
   clear hN h59
   (repeat'((conv=>whnf);first|exact trivial|(with_reducible first|refine zX ?_|refine zP ?_|refine zL ?_)|refine⟨rfl,?_⟩|refine⟨_,rfl,?_⟩|refine⟨fun _=>?_,fun _=>?_⟩|refine zn ?_|refine zb rfl ?_|refine zX ?_|refine zo rfl ?_|refine zs ?_|intro _));all_goals(try(conv=>whnf))
   all_goals exact hnone hWe
open Go.RowKit Ma
def Tk.cut(t:Tk):Tk:=⟨t.C,t.D,t.T,(t.secs.take 4).isEmpty,t.secs.take 4⟩
theorem c0e(c:Tk):a0A Tryz.prog 47 [eT c] (.p (eT c.cut)):=by
 have hm:=a0M;obtain⟨f1,f2,f3⟩:=a5V 4 (c.secs.map eS);have hlen:((c.secs.map eS).take 4).length<=4:=by simp;omega
 have hA1:(([]:List PV).length+((c.secs.map eS).take (if ((4:Nat):Int)<((c.secs.map eS).length:Int) then ((4:Nat):Int) else ((c.secs.map eS).length:Int)).toNat).length)*24<=140737488355328:=by rw[f3];simp only[List.length_nil];omega
 have hA2:([]:List PV).length+((c.secs.map eS).take (if ((4:Nat):Int)<((c.secs.map eS).length:Int) then ((4:Nat):Int) else ((c.secs.map eS).length:Int)).toNat).length<=maxLen:=by rw[f3];simp only[List.length_nil];omega
 refine Fn.run k47 rfl ?_;generalize Tryz.prog=P at *
 (repeat'((conv=>whnf);first|exact trivial|(with_reducible first|refine zX ?_|refine zP ?_|refine zL ?_)|refine⟨rfl,?_⟩|refine⟨_,rfl,?_⟩|refine⟨fun _=>?_,fun _=>?_⟩|refine zn ?_|refine zb rfl ?_|refine zX ?_|refine zo rfl ?_|refine zs ?_|intro _));all_goals(try(conv=>whnf))
 rw[b0t 4 4 rfl, <-List.map_take,a3r]
 rfl
theorem c3S(c:Cf)(t:Tk)(hl:c.res.length<=1000):a0A Tryz.prog 17 [eCf c,eT t] (.tup [.p (eT t.cut),.p (.bool (t.cut.ok c.res.length))]):=by
 have h1:=c0e t;have h2:=c1T c t.cut (by simp[Tk.cut];omega) hl
 generalize t.cut=d at *;generalize d.ok c.res.length=y at *;simp only[eCf,eT] at *;refine Fn.run k17 rfl ?_;generalize Tryz.prog=P at *
 (repeat'((conv=>whnf);first|exact trivial|(with_reducible first|refine zX ?_|refine zP ?_|refine zL ?_)|refine⟨rfl,?_⟩|refine⟨_,rfl,?_⟩|refine⟨fun _=>?_,fun _=>?_⟩|refine zn ?_|refine zb rfl ?_|refine zX ?_|refine zo rfl ?_|refine zs ?_|intro _));all_goals(try(conv=>whnf))
 all_goals rfl
open Go.RowKit Ma
instance:No ((true ==true)=false):=⟨by decide⟩
instance:No ((false ==false)=false):=⟨by decide⟩
instance:No ((true ==false)=true):=⟨by decide⟩
instance:No ((false ==true)=true):=⟨by decide⟩
instance:No ((true ==true) = !true):=⟨by decide⟩
instance:No ((false ==false) = !true):=⟨by decide⟩
instance:No ((true ==false) = !false):=⟨by decide⟩
instance:No ((false ==true) = !false):=⟨by decide⟩
structure Kept (c:Cf) (nl:Bool) (ls:LL) (d:Cf) (L:LL):Prop where
 ok:d.ok=true
 cf:a0A Tryz.prog 16 [eCf c] (.p (eCf d))
 co:a0A Tryz.prog 49 [eCf d,sLL nl ls] (.p (sLL false L))
 ll:LLok L
 len:(L.length:Int)=d.cores
 few:L.length<=6
 each:∀p,p∈L->a1W p.2=true/\p.2.length<=10/\p.1=p.2.isEmpty
theorem c8t(c:Cf)(nl:Bool)(ls:LL):∃d L,Kept c nl ls d L:=by
 have hok:=c1Y c;obtain⟨⟨⟨q1,q2⟩,_⟩,_⟩:=b9b hok;obtain⟨n,hn⟩:∃n:Nat,(cfV c).cores=n:=⟨(cfV c).cores.toNat,by omega⟩
 have hlen:=fun y hy=>b3R (n:=n) (ls:=ls) (y:=y) hy
 have hfit:=fun y hy=>b1A (n:=n) (ls:=ls) (y:=y) hy
 have hL:=a8l n ls;refine⟨cfV c,(a2T n ls).map eLd,hok,b6N c,b8m (cfV c) n hn (by omega) nl ls,b8O hlen (by omega),by simp;omega,by simp;omega,fun p hp=>?_⟩
 obtain⟨y,hy,rfl⟩:=List.mem_map.1 hp;exact⟨hfit y hy,hlen y hy,rfl⟩
theorem a9b{d:Cf}{t:Tk}{L:LL}{n:Int}(hd:d.ok=true)(ht:t.ok n=true)(hw:a5J d t L≠[]):t.secs=[]/\∃w,WinOk d.lag d.move t.C t.D t.T (L.map (·.2)) (a5J d t L) w:=by
 have hl:=b2D hd ht;unfold a5J at hw ⊢
 by_cases hs:t.secs=[]
 ·rw[if_pos hs] at hw ⊢
  exact⟨hs,a9A hl.l1 hl.m1 hl.C1 _ _ hw⟩
 ·rw[if_neg hs] at hw;exact absurd rfl hw
theorem b5V{d:Cf}{t:Tk}{L:LL}{n:Int}(hd:d.ok=true)(ht:t.ok n=true)(hlen:(L.length:Int)=d.cores)(hw:a5J d t L≠[]):b6G d.cores d.lag d.move t.C t.D t.secs.length 2 (a5J d t L)=true:=by
 obtain⟨hs,w,h⟩:=a9b hd ht hw;rw[a4V,hs];exact h.plan (b2D hd ht) (by simpa using hlen)
theorem b7R{d:Cf}{t:Tk}{L:LL}{n:Int}(hd:d.ok=true)(ht:t.ok n=true)(hf:L.length<=6):(a5J d t L).length<=6:=by
 by_cases hw:a5J d t L=[]
 ·rw[hw];simp
 ·obtain⟨_,w,h⟩:=a9b hd ht hw
  have:=h.le;simp at this;omega
theorem a9H{d:Cf}{t:Tk}{L:LL}(hw:a5i d t L≠[]):t.secs=[]/\ZeroOk d.lag d.move t.C t.D t.T (L.map (·.2)) (a5i d t L):=by
 unfold a5i at hw ⊢
 by_cases hs:t.secs=[]
 ·rw[if_pos hs] at hw ⊢
  exact⟨hs,b3D hw⟩
 ·rw[if_neg hs] at hw;exact absurd rfl hw
theorem b4s{d:Cf}{t:Tk}{L:LL}{n:Int}(hd:d.ok=true)(ht:t.ok n=true)(hlen:(L.length:Int)=d.cores)(hw:a5i d t L≠[]):b6G d.cores d.lag d.move t.C t.D t.secs.length 3 (a5i d t L)=true:=by
 obtain⟨hs,h⟩:=a9H hw;rw[a4V,hs];exact h.plan (b2D hd ht) (by simpa using hlen)
theorem b6d{d:Cf}{t:Tk}{L:LL}:(a5i d t L).length<=2:=by
 by_cases hw:a5i d t L=[]
 ·rw[hw];simp
 ·obtain⟨_,h⟩:=a9H hw
  obtain⟨a,b,x,_,_,_,_,_,_,_,_,e⟩:=h.it;rw[e];simp
open Go.RowKit Ma
theorem c5T(c:Cf)(t:Tk)(k:Int)(nl:Bool)(ps:List Pc)(hps:ps.length<=1000)(j:Jb)(now:Int)(hl:1<=j.left/\j.left<=1000000)(hs0:0<=j.sec) :
  a0A Tryz.prog 21 [eCf c,eT t,ePl k nl ps,eJ j,.int .i64 now] (jR (a1D c.move now t.secs ps j)):=by
 have hm:=a0M;have hpl:((ps.map eP).length:Int)=ps.length:=by simp
 have hsl:((t.secs.map eS).length:Int)=t.secs.length:=by simp
 have hwf:IntKind.wrap IntKind.i64 (j.left-1)=j.left-1:=a0T (by omega) (by omega)
 by_cases hst:j.st=2
 ·have b0:(j.st !=2)=false:=by simp[hst]
  by_cases hr:0<=j.pc/\j.pc<(ps.length:Int)
  ·have hR:j.st=2/\0<=j.pc/\j.pc<(ps.length:Int):=⟨hst,hr⟩
   have hwp:=b2w hps hr;have b1:decide (j.pc<0)=false:=decide_eq_false (by omega)
   have b2:decide (j.pc≥((ps.map eP).length:Int))=false:=decide_eq_false (by omega)
   by_cases hO:j.ov<=0
   ·by_cases hD:IntKind.wrap IntKind.i64 (j.don+1)=j.want
    ·exact c0G c t k nl ps hps j now hl hs0 hst hr hO hD
    ·by_cases hS2:j.sec<(t.secs.length:Int)
     ·exact c1i c t k nl ps hps j now hl hs0 hst hr hO hD hS2
     ·exact c0O c t k nl ps hps j now hl hs0 hst hr hO hD hS2
   ·exact c0C c t k nl ps hps j now hl hs0 hst hr hO
  ·have e:a1D c.move now t.secs ps j=(j,0):=by unfold a1D;rw[if_neg (fun h=>hr h.2)]
   rw[e]
   by_cases h0:j.pc<0
   ·have b1:decide (j.pc<0)=true:=decide_eq_true h0
    refine Fn.run k21 rfl ?_;generalize Tryz.prog=P at *
    (repeat'((conv=>whnf);first|exact trivial|(with_reducible first|refine zX ?_|refine zP ?_|refine zL ?_)|refine⟨rfl,?_⟩|refine⟨_,rfl,?_⟩|refine⟨fun _=>?_,fun _=>?_⟩|refine zn ?_|refine zb rfl ?_|refine zX ?_|refine zo rfl ?_|refine zs ?_|intro _));all_goals(try(conv=>whnf))
    all_goals rfl
   ·have b1:decide (j.pc<0)=false:=decide_eq_false h0
    have b2:decide (j.pc≥((ps.map eP).length:Int))=true:=decide_eq_true (by omega)
    refine Fn.run k21 rfl ?_;generalize Tryz.prog=P at *
    (repeat'((conv=>whnf);first|exact trivial|(with_reducible first|refine zX ?_|refine zP ?_|refine zL ?_)|refine⟨rfl,?_⟩|refine⟨_,rfl,?_⟩|refine⟨fun _=>?_,fun _=>?_⟩|refine zn ?_|refine zb rfl ?_|refine zX ?_|refine zo rfl ?_|refine zs ?_|intro _));all_goals(try(conv=>whnf))
    all_goals rfl
 ·have e:a1D c.move now t.secs ps j=(j,0):=by unfold a1D;rw[if_neg (fun h=>hst h.1)]
  rw[e];have b0:(j.st !=2)=true:=by simp[hst]
  refine Fn.run k21 rfl ?_;generalize Tryz.prog=P at *
  (repeat'((conv=>whnf);first|exact trivial|(with_reducible first|refine zX ?_|refine zP ?_|refine zL ?_)|refine⟨rfl,?_⟩|refine⟨_,rfl,?_⟩|refine⟨fun _=>?_,fun _=>?_⟩|refine zn ?_|refine zb rfl ?_|refine zX ?_|refine zo rfl ?_|refine zs ?_|intro _));all_goals(try(conv=>whnf))
  all_goals rfl
end Go.Proofs.YtnjphclbpgajpaaGreatDoor.Vc
namespace Go.Proofs.YtnjphclbpgajpaaGreatDoor.Ma
theorem b6n{x:Ld}(h:x.ok=true)(hc:x.c<=x.d):a1W [x]=true:=by
 have ho:=Ld.ok_iff.1 h;rw[a1g];have hq:∀s:Int,1<=s->s<=x.t->(s-1)/x.t=0:=fun s h1 h2=>Int.ediv_eq_zero_of_lt (by omega) (by omega)
 have ha:∀s:Int,1<=s->s<=x.t->a1K [x] s=x.c:=fun s h1 h2=>by
  simp only[a1K,a2E,a7g,hq s h1 h2];omega
 refine⟨a0n.2 ⟨by simp,fun y hy=>by simp only[List.mem_singleton] at hy;subst hy;exact h⟩,.inr ⟨x.c,⟨by omega,by omega,ha _ (by omega) (by omega),fun s h1 h2=>by rw[ha s h1 (by omega)];omega⟩,fun t h1 h2=>?_⟩⟩
 simp only[a2c,a2E,b0M]
 split
 ·omega
 ·have e:t-x.d=0:=by omega
  rw[e,Int.zero_ediv];omega
theorem b5W{x:Ld}(h:x.ok=true)(hc:x.c<=x.d){n:Nat}(hn:1<=n):b2f (List.replicate n []) x=0:=by
 obtain⟨m,rfl⟩:∃m,n=m+1:=⟨n-1,by omega⟩
 have:=b6n h hc;simp[b2f,a4S,List.replicate_succ,this]
end Go.Proofs.YtnjphclbpgajpaaGreatDoor.Ma
namespace Go.Proofs.YtnjphclbpgajpaaGreatDoor.Vc
open Go.RowKit Ma
theorem b6E{c d:Cf}{nl:Bool}{ls L:LL}(K:Kept c nl ls d L)(u:Tk)(hok:u.ok d.res.length=true)(way:Int):∃(k:Int) (W:List Pc),
  a0A Tryz.prog 18 [eCf d,sLL nl ls,eT u,.int .i64 way] (.tup [.p (ePl k false W),.p (.bool true)])/\PlanOk d.cores d.lag d.move u.C u.D u.secs.length k W/\(u.secs≠[]->W.length=1)/\W.length<=6:=by
 obtain⟨hd, -,h20,hL,hlen,hfew,heach⟩:=K;have hm:=a0M;have hlim:=b2D hd hok;have h28:=b8x d hd u hok false L hL hlen;have h32:=c0w d hd u hok false L hL hlen;obtain⟨n,hn⟩:∃n:Nat,d.cores=n:=⟨d.cores.toNat,by have:=hlim.c1;omega⟩
 have hn1:1<=n:=by have:=hlim.c1;omega
 have hn6:n<=6:=by have:=hlim.c2;omega
 have h22:=b8E false (List.replicate n (true,[])) ⟨fun p hp _=>by rw[List.mem_replicate] at hp;rw[hp.2],fun p hp=>by rw[List.mem_replicate] at hp;rw[hp.2];simp,by simp;omega⟩ u 0 (by have:=hlim.C1;omega) (by have:=hlim.C1;have:=hlim.CD;have:=hlim.DT;have:=hlim.T2;omega)
 have hcv:b2f ((List.replicate n (true,([]:List Ld))).map (·.2)) ⟨u.C+0,u.D,u.T⟩=0:=by
  rw[List.map_replicate];exact b5W (Ld.ok_iff.2 (by have:=hlim.C1;have:=hlim.CD;have:=hlim.DT;have:=hlim.T2;simp only;omega)) (by have:=hlim.CD;simp only;omega) hn1
 rw[hcv] at h22;have hwp:a6F 0 u.D u.C=[⟨0,0,u.D,u.C⟩]:=by simp[a6F]
 rw[hwp,a1J,if_neg (by simp)] at h22
 simp only[sLL,List.map_replicate,eC,sL,List.map_nil] at h22;have w1:a5J d u L≠[]->PlanOk d.cores d.lag d.move u.C u.D u.secs.length 2 (a5J d u L):=fun h=>a4V.1 (b5V hd hok hlen h)
 have w2:a5i d u L≠[]->PlanOk d.cores d.lag d.move u.C u.D u.secs.length 3 (a5i d u L):=fun h=>a4V.1 (b4s hd hok hlen h)
 have w3:PlanOk d.cores d.lag d.move u.C u.D u.secs.length 1 [⟨0,0,u.D,u.C⟩]:=b2x hlim (Int.le_refl 0) (by have:=hlim.c1;omega)
 have s1:u.secs≠[]->a5J d u L=[]:=fun h=>by unfold a5J;rw[if_neg h]
 have s2:u.secs≠[]->a5i d u L=[]:=fun h=>by unfold a5i;rw[if_neg h]
 have l1:(a5J d u L).length<=6:=b7R hd hok hfew;have l2:(a5i d u L).length<=2:=b6d;generalize a5J d u L=W1 at *;generalize a5i d u L=W2 at *;clear hcv hwp heach hlen hlim hL hd;have hnn:d.cores.toNat=n:=by omega
 have g0:0<=d.cores:=by omega
 have g1:d.cores*24<=140737488355328:=by omega
 have g2:d.cores<=(maxLen:Int):=by omega
 simp only[eCf,eT,ePl] at h20 h28 h32 h22
 by_cases e1:W1=[]
 ·rw[a1J,if_pos e1] at h28
  by_cases e2:W2=[]
  ·rw[a1J,if_pos e2] at h32
   refine⟨1,_,?_,w3,fun _=>rfl,by simp⟩
   rw[<-hnn] at h22;refine Fn.run k18 rfl ?_;generalize Tryz.prog=P at *
   (repeat'((conv=>whnf);first|exact trivial|(with_reducible first|refine zX ?_|refine zP ?_|refine zL ?_)|refine⟨rfl,?_⟩|refine⟨_,rfl,?_⟩|refine⟨fun _=>?_,fun _=>?_⟩|refine zn ?_|refine zb rfl ?_|refine zX ?_|refine zo rfl ?_|refine zs ?_|intro _));all_goals(try(conv=>whnf))
   all_goals rfl
  ·rw[a1J,if_neg e2] at h32
   have q:u.secs≠[]->False:=fun h=>e2 (s2 h)
   cases hw:(a2W .and .i64 way 3 ==2) with
   |false=>
    refine⟨3,W2,?_,w2 e2,fun h=>(q h).elim,by omega⟩
    refine Fn.run k18 rfl ?_;generalize Tryz.prog=P at *
    (repeat'((conv=>whnf);first|exact trivial|(with_reducible first|refine zX ?_|refine zP ?_|refine zL ?_)|refine⟨rfl,?_⟩|refine⟨_,rfl,?_⟩|refine⟨fun _=>?_,fun _=>?_⟩|refine zn ?_|refine zb rfl ?_|refine zX ?_|refine zo rfl ?_|refine zs ?_|intro _));all_goals(try(conv=>whnf))
    all_goals rfl
   |true=>
    refine⟨1,_,?_,w3,fun _=>rfl,by simp⟩
    rw[<-hnn] at h22;refine Fn.run k18 rfl ?_;generalize Tryz.prog=P at *
    (repeat'((conv=>whnf);first|exact trivial|(with_reducible first|refine zX ?_|refine zP ?_|refine zL ?_)|refine⟨rfl,?_⟩|refine⟨_,rfl,?_⟩|refine⟨fun _=>?_,fun _=>?_⟩|refine zn ?_|refine zb rfl ?_|refine zX ?_|refine zo rfl ?_|refine zs ?_|intro _));all_goals(try(conv=>whnf))
    all_goals rfl
 ·rw[a1J,if_neg e1] at h28
  have q:u.secs≠[]->False:=fun h=>e1 (s1 h)
  cases hw:(a2W .and .i64 way 3 ==2) with
  |true=>
   refine⟨1,_,?_,w3,fun _=>rfl,by simp⟩
   rw[<-hnn] at h22
   cases hv:(a2W .and .i64 way 3 ==1) with
   |false=>
    refine Fn.run k18 rfl ?_;generalize Tryz.prog=P at *
    (repeat'((conv=>whnf);first|exact trivial|(with_reducible first|refine zX ?_|refine zP ?_|refine zL ?_)|refine⟨rfl,?_⟩|refine⟨_,rfl,?_⟩|refine⟨fun _=>?_,fun _=>?_⟩|refine zn ?_|refine zb rfl ?_|refine zX ?_|refine zo rfl ?_|refine zs ?_|intro _));all_goals(try(conv=>whnf))
    all_goals rfl
   |true=>
    simp only[beq_iff_eq] at hv hw;omega
  |false=>
   cases hv:(a2W .and .i64 way 3 ==1) with
   |false=>
    refine⟨2,W1,?_,w1 e1,fun h=>(q h).elim,by omega⟩
    refine Fn.run k18 rfl ?_;generalize Tryz.prog=P at *
    (repeat'((conv=>whnf);first|exact trivial|(with_reducible first|refine zX ?_|refine zP ?_|refine zL ?_)|refine⟨rfl,?_⟩|refine⟨_,rfl,?_⟩|refine⟨fun _=>?_,fun _=>?_⟩|refine zn ?_|refine zb rfl ?_|refine zX ?_|refine zo rfl ?_|refine zs ?_|intro _));all_goals(try(conv=>whnf))
    all_goals rfl
   |true=>
    by_cases e2:W2=[]
    ·rw[a1J,if_pos e2] at h32
     refine⟨2,W1,?_,w1 e1,fun h=>(q h).elim,by omega⟩
     refine Fn.run k18 rfl ?_;generalize Tryz.prog=P at *
     (repeat'((conv=>whnf);first|exact trivial|(with_reducible first|refine zX ?_|refine zP ?_|refine zL ?_)|refine⟨rfl,?_⟩|refine⟨_,rfl,?_⟩|refine⟨fun _=>?_,fun _=>?_⟩|refine zn ?_|refine zb rfl ?_|refine zX ?_|refine zo rfl ?_|refine zs ?_|intro _));all_goals(try(conv=>whnf))
     all_goals rfl
    ·rw[a1J,if_neg e2] at h32
     refine⟨3,W2,?_,w2 e2,fun h=>(q h).elim,by omega⟩
     refine Fn.run k18 rfl ?_;generalize Tryz.prog=P at *
     (repeat'((conv=>whnf);first|exact trivial|(with_reducible first|refine zX ?_|refine zP ?_|refine zL ?_)|refine⟨rfl,?_⟩|refine⟨_,rfl,?_⟩|refine⟨fun _=>?_,fun _=>?_⟩|refine zn ?_|refine zb rfl ?_|refine zX ?_|refine zo rfl ?_|refine zs ?_|intro _));all_goals(try(conv=>whnf))
     all_goals rfl
end Go.Proofs.YtnjphclbpgajpaaGreatDoor.Vc
